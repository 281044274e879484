/- The statement of linenlaw.UseCounts, from its walk: for every input the law returns true and its arguments read afterwards as before. No condition of ours. -/
import Derived.Test.YtjmgocfoimhmjaaUiR
import Derived.Test.YtjmgocfoimhmjaaImapW
import Derived.Test.YtjmgocfoimhmjaaUcJa
import Derived.Deep.DeepCutAuto
import Derived.Test.YtjmgocfoimhmjaaUcJd
import Derived.Test.YtjmgocfoimhmjaaEqIW
/- linenref.Alive, walked. -/
namespace Go.Proofs.Ytjmgocfoimhmjaa
open Go.RowKit

def AlPost (cs : List ByteArray) (ws : List PutD) (xs : List PlaceD) (gs : List Int) (w : World) (e : Ending) (w' : World) : Prop :=
  (alGood cs ws xs gs 48 ∧ ∃ (D : Option Addr) (d : Nat), e = .returned (.tuple #[.slice D (alL cs ws xs 48).length d, .bool true]) ∧ RowsIn w' w'.heap.size D (alL cs ws xs 48).length d PlaceD.cells 2 (alL cs ws xs 48) ∧ Below w.heap.size w w') ∨
  (¬ alGood cs ws xs gs 48 ∧ e = .returned (.tuple #[.slice none 0 0, .bool false]) ∧ Below w.heap.size w w')
theorem rows_leftU {α : Type} {enc : α → List Value} {k n c B base : Nat} {A : Option Addr} {xs : List α} {w w' : World} {row : Option Nat} (r : RowsIn w B A n c enc k xs) (hl : Left w w' base row) (hM : ∀ b o, A = some ⟨b, o, none⟩ → 0 < n → row ≠ some b) : RowsIn w' B A n c enc k xs :=
  ⟨r.len, r.le, r.top, fun i x hx => by
    obtain ⟨b, o, e, hb, hc⟩ := r.at_ i x hx
    have h0 : 0 < n := by have := r.len; have := (List.getElem?_eq_some_iff.1 hx).1; omega
    exact ⟨b, o, e, hb, fun j u hu => hl.cell (hc j u hu) (hM b o e h0)⟩⟩
structure UaI (cs : List ByteArray) (ws : List PutD) (xs : List PlaceD) (gs : List Int) (wa : World) (i : Nat) (Ao : Option Addr) (co : Nat) (wr : World) : Prop where
  good : alGood cs ws xs gs i
  own : Owns wr wa.heap.size 2 (.slice Ao (alL cs ws xs i).length co) (alL cs ws xs i).length ((alL cs ws xs i).flatMap PlaceD.cells)
  below : Below wa.heap.size wa wr
structure UaJ (cs : List ByteArray) (ws : List PutD) (l : List PlaceD) (wa : World) (i j : Nat) (p : PlaceD) (ps : List PlaceD) (Ao : Option Addr) (co : Nat) (D : Option Addr) (d : Nat) (wr : World) : Prop where
  ok : okTo cs ws i ps j
  own : Owns wr wa.heap.size 2 (.slice Ao (l ++ (p :: ptL ps j)).length co) (l ++ (p :: ptL ps j)).length ((l ++ (p :: ptL ps j)).flatMap PlaceD.cells)
  rows : RowsIn wr wr.heap.size D ps.length d PlaceD.cells 2 ps
  below : Below wa.heap.size wa wr
  far : ∀ b' o, D = some ⟨b', o, none⟩ → 0 < ps.length → Value.ownBlock (.slice Ao (l ++ (p :: ptL ps j)).length co) ≠ some b'
theorem add_place {w : World} {base co : Nat} {Ao : Option Addr} {l : List PlaceD} {p : PlaceD} (h : Owns w base 2 (.slice Ao (l.length + 1) co) (l.length + 1) (l.flatMap PlaceD.cells ++ [.int .i64 p.Cell, .int .i64 p.Nth])) : Owns w base 2 (.slice Ao (l ++ [p]).length co) (l ++ [p]).length ((l ++ [p]).flatMap PlaceD.cells) := by
  rw [List.flatMap_append]
  have e : (l ++ [p]).length = l.length + 1 := by simp
  rw [e]
  exact h
theorem rows_ltU {w : World} {B n c b o : Nat} {xs : List PlaceD} (r : RowsIn w B (some ⟨b, o, none⟩) n c PlaceD.cells 2 xs) (h : 0 < n) : b < B := by
  have hl := r.len
  obtain ⟨b', o', e, hb, _⟩ := r.at_ 0 _ (List.getElem?_eq_getElem (by omega))
  injection e with e; injection e with e1 _ _
  subst e1; exact hb
theorem box_keep {w7 w9 : World} {vs : Array Value} {t : TypeId} (hb : Below (w7.alloc (.cells vs t)).heap.size (w7.alloc (.cells vs t)) w9) : w9.heap[w7.heap.size]? = some (.cells vs t (0, 0)) ∧ w7.heap.size < w9.heap.size := by
  have h := row_below (heap_alloc_new w7 (.cells vs t)) (row_lt (heap_alloc_new w7 (.cells vs t))) hb
  exact ⟨h, row_lt h⟩
theorem uaj_start {cs : List ByteArray} {ws : List PutD} {i co c3 d : Nat} {l ps : List PlaceD} {p : PlaceD} {wa w4 w5 w6 : World} {X : Obj} {Ao A3 D : Option Addr} (ho : Owns w4 wa.heap.size 2 (.slice Ao l.length co) l.length (l.flatMap PlaceD.cells)) (hb4 : Below wa.heap.size wa w4) (hb5 : Below w4.heap.size w4 w5) (r5 : RowsIn w5 w5.heap.size D ps.length d PlaceD.cells 2 ps) (hf5 : ∀ a, D = some a → w4.heap.size ≤ a.block)
    (hown : Owns w6 wa.heap.size 2 (.slice A3 (l.length + 1) c3) (l.length + 1) (l.flatMap PlaceD.cells ++ [.int .i64 p.Cell, .int .i64 p.Nth])) (hl : Left (w5.alloc X) w6 wa.heap.size (Value.ownBlock (.slice Ao l.length co))) (hn : Value.ownBlock (.slice A3 (l.length + 1) c3) = Value.ownBlock (.slice Ao l.length co) ∨ ∀ k, Value.ownBlock (.slice A3 (l.length + 1) c3) = some k → (w5.alloc X).heap.size ≤ k) :
    UaJ cs ws l wa i 0 p ps A3 c3 D d w6 := by
  have e : l ++ (p :: ptL ps 0) = l ++ [p] := rfl
  have e2 : (l ++ [p]).length = l.length + 1 := by rw [List.length_append]; rfl
  have h1 : ∀ b o, D = some ⟨b, o, none⟩ → 0 < ps.length → Value.ownBlock (.slice Ao l.length co) ≠ some b := fun b o h _ h' => by
    have q1 := (ho.lt b h').2
    have q2 : w4.heap.size ≤ b := hf5 _ h
    omega
  exact { ok := fun j q h => by omega, own := by rw [e]; exact add_place hown
          rows := (rows_leftU (r5.alloc (Nat.le_refl _) X) hl h1).more (by have := hl.size; simp at this; omega)
          below := hl.below (Nat.le_refl _) ((hb4.trans (hb5.mono hb4.size)).alloc (hb4.trans (hb5.mono hb4.size)).size X)
          far := fun b o h h0 h' => by
            rw [e, e2] at h'
            rcases hn with hn | hn
            · rw [hn] at h'; exact h1 b o h h0 h'
            · have q1 := hn b h'
              subst h
              have q2 := rows_ltU r5 h0
              simp at q1; omega }
theorem uaj_skip {cs : List ByteArray} {ws : List PutD} {i j co d : Nat} {l ps : List PlaceD} {p q : PlaceD} {wa w7 : World} {X : Obj} {Ao D : Option Addr} (h : UaJ cs ws l wa i j p ps Ao co D d w7) (hq : ps[j]? = some q) (h0 : q.Cell = 0) :
    UaJ cs ws l wa i (j + 1) p ps Ao co D d (w7.alloc X) ∧ ptL ps (j + 1) = ptL ps j := by
  have e := ptL_skip hq h0
  exact ⟨{ ok := okTo_succ h.ok hq (.inl h0), own := by rw [e]; exact h.own.alloc _, rows := (h.rows.alloc (Nat.le_refl _) _).more (by simp), below := h.below.alloc h.below.size _, far := by rw [e]; exact h.far }, e⟩
theorem uaj_add {cs : List ByteArray} {ws : List PutD} {i j co c3 d : Nat} {l ps : List PlaceD} {p q : PlaceD} {wa w7 w9 w10 : World} {X Y : Obj} {Ao A3 D : Option Addr} (h : UaJ cs ws l wa i j p ps Ao co D d w7) (hq : ps[j]? = some q) (h0 : q.Cell ≠ 0) (hok : ptOk cs ws i j q) (hb9 : Below (w7.alloc X).heap.size (w7.alloc X) w9)
    (hown : Owns w10 wa.heap.size 2 (.slice A3 ((l ++ (p :: ptL ps j)).length + 1) c3) ((l ++ (p :: ptL ps j)).length + 1) ((l ++ (p :: ptL ps j)).flatMap PlaceD.cells ++ [.int .i64 q.Cell, .int .i64 q.Nth])) (hl : Left (w9.alloc Y) w10 wa.heap.size (Value.ownBlock (.slice Ao (l ++ (p :: ptL ps j)).length co))) (hn : Value.ownBlock (.slice A3 ((l ++ (p :: ptL ps j)).length + 1) c3) = Value.ownBlock (.slice Ao (l ++ (p :: ptL ps j)).length co) ∨ ∀ k, Value.ownBlock (.slice A3 ((l ++ (p :: ptL ps j)).length + 1) c3) = some k → (w9.alloc Y).heap.size ≤ k) :
    UaJ cs ws l wa i (j + 1) p ps A3 c3 D d w10 ∧ (l ++ (p :: ptL ps (j + 1))).length = (l ++ (p :: ptL ps j)).length + 1 := by
  have e : l ++ (p :: ptL ps (j + 1)) = (l ++ (p :: ptL ps j)) ++ [q] := by rw [ptL_add hq h0]; simp
  have e2 : ((l ++ (p :: ptL ps j)) ++ [q]).length = (l ++ (p :: ptL ps j)).length + 1 := by rw [List.length_append]; rfl
  have hs9 := hb9.size
  have hs10 := hl.size
  have z8 : (w7.alloc X).heap.size = w7.heap.size + 1 := by simp
  have z9 : (w9.alloc Y).heap.size = w9.heap.size + 1 := by simp
  have h8 : Below wa.heap.size wa (w7.alloc X) := h.below.alloc h.below.size _
  have h9 : Below wa.heap.size wa w9 := h8.trans (hb9.mono h8.size)
  exact ⟨{ ok := okTo_succ h.ok hq (.inr hok), own := by rw [e]; exact add_place hown
           rows := (rows_leftU ((((h.rows.alloc (Nat.le_refl _) X).more (by simp)).below hb9).alloc (by omega) Y) hl h.far).more (by omega)
           below := hl.below (Nat.le_refl _) (h9.alloc h9.size Y)
           far := fun b o hD hz h' => by
             rw [e, e2] at h'
             rcases hn with hn | hn
             · rw [hn] at h'; exact h.far b o hD hz h'
             · have q1 := hn b h'
               subst hD
               have q2 := rows_ltU h.rows hz
               omega }, by rw [e, e2]⟩
theorem ai_yes {f : FuncId} {args : Array Value} {W : World} {cs : List ByteArray} {ws : List PutD} {k : Nat} {p : PlaceD} {g : Int} (h : Calls Try.prog f args W (AiPost cs ws k p g W)) (hok : inOk cs ws k p g) :
    Calls Try.prog f args W fun e w' => ∃ (K G S : Int) (D : Option Addr) (q d : Nat), e = .returned (.tuple #[.agg #[.int .i64 K, .int .i64 G, .int .i64 S, .slice D q d], .bool true]) ∧ RowsIn w' w'.heap.size D q d PlaceD.cells 2 (pts cs ws p) ∧ Below W.heap.size W w' ∧ (∀ a, D = some a → W.heap.size ≤ a.block) :=
  h.mono fun _ _ h => by
    rcases h with ⟨_, h⟩ | ⟨h, _⟩
    · exact h
    · exact absurd hok h
theorem ai_no {f : FuncId} {args : Array Value} {W : World} {cs : List ByteArray} {ws : List PutD} {k : Nat} {p : PlaceD} {g : Int} (h : Calls Try.prog f args W (AiPost cs ws k p g W)) (hok : ¬ inOk cs ws k p g) :
    Calls Try.prog f args W fun e w' => ∃ (K G S : Int) (D : Option Addr) (q d : Nat), e = .returned (.tuple #[.agg #[.int .i64 K, .int .i64 G, .int .i64 S, .slice D q d], .bool false]) ∧ Below W.heap.size W w' :=
  h.mono fun _ _ h => by
    rcases h with ⟨h, _⟩ | ⟨_, h⟩
    · exact absurd h hok
    · exact h

set_option maxRecDepth 20000 in
set_option maxHeartbeats 8000000 in
theorem alive_any (A : Option Addr) (n c : Nat) (cs : List ByteArray) (A' : Option Addr) (n' c' : Nat) (ws : List PutD) (Am : Option Addr) (nm cm : Nat) (xs : List PlaceD) (Ag : Option Addr) (ng cg : Nat) (gs : List Int) (w : World) (r : RowsIn w w.heap.size A n c (fun z => [.string z]) 1 cs) (r' : RowsIn w w.heap.size A' n' c' PutD.cells 2 ws) (rm : RowsIn w w.heap.size Am nm cm PlaceD.cells 2 xs) (rg : RowsIn w w.heap.size Ag ng cg (fun z => [.int .i64 z]) 1 gs) (hd : dskE cs ws = 0) (hok : ImapOk xs gs) :
    Calls Try.prog 78 #[.agg #[.slice A n c, .slice A' n' c'], .agg #[.slice Am nm cm, .slice Ag ng cg]] w (AlPost cs ws xs gs w) := by
  have hlen := r.len
  subst hlen
  have hlen' := r'.len
  subst hlen'
  have hlenm := rm.len
  subst hlenm
  have hleng := rg.len
  subst hleng
  obtain ⟨wa, hwa⟩ : ∃ wa, wa = (w.alloc (.cells #[.slice A cs.length c, .slice A' ws.length c'] 41)).alloc (.cells #[.slice Am xs.length cm, .slice Ag gs.length cg] 25) := ⟨_, rfl⟩
  have hza : wa.heap.size = w.heap.size + 2 := by rw [hwa]; simp
  have hba : Below w.heap.size w wa := by rw [hwa]; exact ((Below.refl _ _).alloc (Nat.le_refl _) _).alloc (by simp) _
  have hrm : wa.heap[w.heap.size + 1]? = some (.cells #[.slice Am xs.length cm, .slice Ag gs.length cg] 25 (0, 0)) := by
    rw [hwa]
    have := heap_alloc_new (w.alloc (.cells #[.slice A cs.length c, .slice A' ws.length c'] 41)) (.cells #[.slice Am xs.length cm, .slice Ag gs.length cg] 25)
    rw [show (w.alloc (.cells #[.slice A cs.length c, .slice A' ws.length c'] 41)).heap.size = w.heap.size + 1 by simp] at this
    exact this
  have hrb : wa.heap[w.heap.size]? = some (.cells #[.slice A cs.length c, .slice A' ws.length c'] 41 (0, 0)) := by
    rw [hwa]; exact (heap_alloc_old _ _ (by simp)).trans (heap_alloc_new w _)
  have hle := hba.size
  have RA := Lib.hid ((r.below hba).more hle)
  have RA' := Lib.hid ((r'.below hba).more hle)
  have RM := Lib.hid ((rm.below hba).more hle)
  have RG := Lib.hid ((rg.below hba).more hle)
  have HC : Hid (∀ W, Below wa.heap.size wa W → W.cell? ⟨w.heap.size, 0, none⟩ = some (.slice A cs.length c) ∧ W.cell? ⟨w.heap.size, 1, none⟩ = some (.slice A' ws.length c') ∧ W.cell? ⟨w.heap.size + 1, 0, none⟩ = some (.slice Am xs.length cm) ∧ W.cell? ⟨w.heap.size + 1, 1, none⟩ = some (.slice Ag gs.length cg) ∧ w.heap.size < W.heap.size ∧ w.heap.size + 1 < W.heap.size) := fun W h => by
    have q0 := row_below hrb (row_lt hrb) h
    have q1 := row_below hrm (row_lt hrm) h
    exact ⟨row_cell q0 0, row_cell q0 1, row_cell q1 0, row_cell q1 1, row_lt q0, row_lt q1⟩
  have HWA := Lib.hid hwa
  have HBA := Lib.hid hba
  clear r r' rm rg hwa hba hrb hrm hle hza
  have HD := Lib.hid hd
  have HX := Lib.hid hok
  have h400 := (dsk_zero hd).2.2.2.2
  have Z3 := Lib.hid h400
  have hx48' : 48 ≤ xs.length := by rw [hok.1]; omega
  have HNO : Hid (¬ alGood cs ws xs gs 48 → ∀ w', Below w.heap.size w w' → AlPost cs ws xs gs w (.returned (.tuple #[.slice none 0 0, .bool false])) w') := fun h w' hb => .inr ⟨h, rfl, hb⟩
  have HYES : Hid (alGood cs ws xs gs 48 → ∀ (D : Option Addr) (d : Nat) (w' : World), RowsIn w' w'.heap.size D (alL cs ws xs 48).length d PlaceD.cells 2 (alL cs ws xs 48) → Below w.heap.size w w' → AlPost cs ws xs gs w (.returned (.tuple #[.slice D (alL cs ws xs 48).length d, .bool true])) w') := fun h D d w' hr hb => .inl ⟨h, D, d, rfl, hr, hb⟩
  clear hd hok h400
  go_enter Try.func78, Try.ntmps78
  go_wp2
  rw [← HWA.out]
  have I0 : Hid (UaI cs ws xs gs wa 0 none 0 wa) := { good := alGood_zero, own := Owns.nil _ _ _, below := Below.refl _ _ }
  go_loopw [6, 14] (fun v6 v14 wr => ∃ (i : Nat) (Ao : Option Addr) (co : Nat), i ≤ 48 ∧ v14 = .int .i64 i ∧ v6 = .slice Ao (alL cs ws xs i).length co ∧ Hid (UaI cs ws xs gs wa i Ao co wr)) (fun _ v14 _ => 48 - (intOf v14).toNat)
  case atStart => exact ⟨0, none, 0, Nat.zero_le _, rfl, rfl, I0.out⟩
  case round =>
    obtain ⟨i, Ao, co, hi, rfl, rfl, hP⟩ := hrel
    obtain ⟨w4, rfl⟩ : ∃ z : World, z = wr := ⟨_, rfl⟩
    clear I0
    by_cases hlt : i < 48
    · have e1 := List.getElem?_eq_getElem (l := xs) (i := i) (by omega)
      have hgl : i < gs.length := by have h2 := HX.out.2.1; omega
      have e2 := List.getElem?_eq_getElem hgl
      generalize hpx : xs[i] = p at e1
      generalize hgx : gs[i] = g at e2
      obtain ⟨pc, pn⟩ := p
      have E1 := Lib.hid e1
      have E2 := Lib.hid e2
      have hrt : rightB pc pn = true := by
        obtain ⟨p', g', h1, _, h3, _⟩ := HX.out.2.2 i hlt
        rw [e1] at h1; injection h1 with h1; subst h1; exact h3
      obtain ⟨bm, om, hAm, hbm, hcm⟩ := (RM.out.below hP.out.below).at_ i _ e1
      have c0 : w4.cell? ⟨bm, om + i * 2, none⟩ = some (.int .i64 pc) := by simpa using hcm 0 _ rfl
      have c1 : w4.cell? ⟨bm, om + i * 2 + 1, none⟩ = some (.int .i64 pn) := hcm 1 _ rfl
      have i1 : (i : Int) < (xs.length : Int) := by omega
      have i2 : (i : Int) < 48 := by omega
      subst hAm
      have HLEN := Lib.hid (alL_len (cs := cs) (ws := ws) (xs := xs) i)
      obtain ⟨v0, v1, v2, v3, v4, v5⟩ := HC.out w4 hP.out.below
      clear e1 e2 hpx hgx hcm hi hgl
      by_cases hp0 : pc = 0
      · have hpn : pn = 0 := by
          have h : Right pc pn := by simpa [rightB] using hrt
          unfold Right at h; omega
        subst hp0
        subst hpn
        have I1 : Hid (UaI cs ws xs gs wa (i + 1) Ao co w4) := { good := alGood_succ hP.out.good E1.out E2.out (.inl rfl), own := by rw [alL_succ E1.out, inL_skip rfl, List.append_nil]; exact hP.out.own, below := hP.out.below }
        have HE : Hid (alL cs ws xs (i + 1) = alL cs ws xs i) := by simp only [Hid]; rw [alL_succ E1.out, inL_skip rfl, List.append_nil]
        go_wp2_with fail
        go_roundw
        case rel => exact ⟨i + 1, Ao, co, by omega, by go_num, by rw [HE.out], I1.out⟩
        case measure => (simp [intOf]; try omega)
      · have g0 : (pc == 0) = false := beq_eq_false_iff_ne.2 hp0
        have HP0 := Lib.hid hp0
        have HUI := Lib.hid (alin_any A _ c cs A' _ c' ws (some ⟨bm, om, none⟩) _ cm xs Ag _ cg gs i pc pn g w4 ((RA.out.below hP.out.below).more hP.out.below.size) ((RA'.out.below hP.out.below).more hP.out.below.size) ((RM.out.below hP.out.below).more hP.out.below.size) ((RG.out.below hP.out.below).more hP.out.below.size) HD.out E1.out E2.out)
        by_cases hok : inOk cs ws i ⟨pc, pn⟩ g
        · have HOK := Lib.hid hok
          have HUY := Lib.hid (ai_yes HUI.out hok)
          have HPL : Hid ((pts cs ws ⟨pc, pn⟩).length ≤ 8) := irP_len _
          have HPR : Hid (∀ q ∈ pts cs ws ⟨pc, pn⟩, rightB q.Cell q.Nth = true) := fun q hq => irP_right hq
          have HNI : Hid (¬ okTo cs ws i (pts cs ws ⟨pc, pn⟩) (pts cs ws ⟨pc, pn⟩).length → ∀ w', Below w.heap.size w w' → AlPost cs ws xs gs w (.returned (.tuple #[.slice none 0 0, .bool false])) w') := fun h => HNO.out (alGood_not hlt E1.out E2.out (fun g => by rcases g with g | g; exact hp0 g; exact h g.2))
          have HAI : Hid (okTo cs ws i (pts cs ws ⟨pc, pn⟩) (pts cs ws ⟨pc, pn⟩).length → alGood cs ws xs gs (i + 1)) := fun h => alGood_succ hP.out.good E1.out E2.out (.inr ⟨hok, h⟩)
          have HLI : Hid (alL cs ws xs (i + 1) = alL cs ws xs i ++ (⟨pc, pn⟩ :: ptL (pts cs ws ⟨pc, pn⟩) (pts cs ws ⟨pc, pn⟩).length)) := by rw [Hid, alL_succ E1.out, inL_add hp0]
          have HOW := Lib.hid hP.out.own
          have HB4 := Lib.hid hP.out.below
          have HLT := Lib.hid hlt
          have i3 : ¬ (i : Int) < 0 := by omega
          clear hok HUI hp0 HNO HYES HOK E1 E2 hP hlt RM RG HX
          generalize hl0 : alL cs ws xs i = l at *
          obtain ⟨l1, hl1⟩ : ∃ z, z = alL cs ws xs (i + 1) := ⟨_, rfl⟩
          rw [← hl1] at HLI
          have HL1 := Lib.hid hl1.symm
          generalize hps : pts cs ws ⟨pc, pn⟩ = ps at *
          clear hl0 hl1 hps
          have G2 : Hid (∀ u ∈ (#[.int .i64 pc, .int .i64 pn] : Array Value).toList, u.oneCell' = true) := by simp [Hid, Value.oneCell']
          have G3 : Hid (l.length + 1 ≤ maxLen ∧ (l.length + 1) * 16 ≤ 140737488355328) := by unfold maxLen Hid; have := HLEN.out; have := HLT.out; omega
          have G4 : Hid (0 < 2) := by simp [Hid]
          go_wp2_with (first
            | (go_at_call 101; refine HUY.out.mono ?_; rintro e w5 ⟨K, G, S, D, q, d, rfl, r5, hb5, hf5⟩; obtain rfl := r5.len; have HB5 := Lib.hid hb5; have R5 := Lib.hid r5; have HF5 := Lib.hid hf5; have HB5w := Lib.hid (HB4.out.trans (hb5.mono HB4.out.size)); obtain ⟨u0, u1, u2, u3, u4, u5⟩ := HC.out w5 HB5w.out; have k0 := (hb5.cell (p := ⟨bm, om + i * 2, none⟩) (Nat.lt_of_lt_of_le hbm HB4.out.size)).trans c0; have k1 := (hb5.cell (p := ⟨bm, om + i * 2 + 1, none⟩) (Nat.lt_of_lt_of_le hbm HB4.out.size)).trans c1; have k9 := Nat.lt_of_lt_of_le (Nat.lt_of_lt_of_le hbm HB4.out.size) hb5.size; clear hb5 r5 hf5)
            | (at_builtin; refine wpList_add1 (size := 2) (bytes := 16) (base := wa.heap.size) (H := w5.heap.size + 1) (news := #[.int .i64 pc, .int .i64 pn]) rfl rfl Try.underlying22 info_placeL rfl G4.out ((HOW.out.fresh_below HB5.out).alloc (.cells #[.int .i64 K, .int .i64 G, .int .i64 S, .slice D ps.length d] 116)) rfl (HB5w.out.alloc HB5w.out.size _).size rfl (World.size_alloc _ _) rfl G2.out G3.out.1 G3.out.2 ?_; intro A3 c3 w6 hown hl hn; have hm6 := row_left (heap_alloc_new w5 (.cells #[.int .i64 K, .int .i64 G, .int .i64 S, .slice D ps.length d] 116)) hl (Owns.ne_of_le (HOW.out.fresh_below HB5.out) (Nat.le_refl _)); have m3 : w6.cell? ⟨w5.heap.size, 3, none⟩ = some (.slice D ps.length d) := row_cell hm6 3; have m4 := row_lt hm6))
          have J0 : Hid (UaJ cs ws l wa i 0 ⟨pc, pn⟩ ps A3 c3 D d w6) := uaj_start HOW.out HB4.out HB5.out R5.out HF5.out hown hl hn
          have JL : Hid ((l ++ ((⟨pc, pn⟩ : PlaceD) :: ptL ps 0)).length = l.length + 1) := by simp [Hid, ptL]
          clear hown hl hn hm6 m3 m4 k0 k1 k9 u0 u1 u2 u3 u4 u5 v0 v1 v2 v3 v4 v5 c0 c1 hbm HB5 R5 HF5 HB5w HUY G3 G2
          go_loopw [6, 44] (fun v6 v44 wr => ∃ (j : Nat) (Ao : Option Addr) (co : Nat), j ≤ ps.length ∧ v44 = .int .i64 j ∧ v6 = .slice Ao (l ++ ((⟨pc, pn⟩ : PlaceD) :: ptL ps j)).length co ∧ Hid (UaJ cs ws l wa i j ⟨pc, pn⟩ ps Ao co D d wr)) (fun _ v44 _ => ps.length - (intOf v44).toNat)
          case atStart => exact ⟨0, A3, c3, Nat.zero_le _, rfl, by rw [JL.out], J0.out⟩
          case round =>
            obtain ⟨j, Ao, co, hj, rfl, rfl, hP⟩ := hrel
            obtain ⟨w7, rfl⟩ : ∃ z : World, z = wr := ⟨_, rfl⟩
            clear J0
            by_cases hlt : j < ps.length
            · have e1 := List.getElem?_eq_getElem (l := ps) (i := j) hlt
              generalize hpx : ps[j] = q at e1
              obtain ⟨qc, qn⟩ := q
              have E1 := Lib.hid e1
              have hrt2 : rightB qc qn = true := HPR.out ⟨qc, qn⟩ (List.mem_of_getElem? e1)
              obtain ⟨bd, od, hD, hbd, hcd⟩ := hP.out.rows.at_ j _ e1
              have c0 : w7.cell? ⟨bd, od + j * 2, none⟩ = some (.int .i64 qc) := by simpa using hcd 0 _ rfl
              have c1 : w7.cell? ⟨bd, od + j * 2 + 1, none⟩ = some (.int .i64 qn) := hcd 1 _ rfl
              have j1 : (j : Int) < (ps.length : Int) := by omega
              have j8 : (j : Int) < 8 := by have := HPL.out; omega
              subst hD
              obtain ⟨v0, v1, v2, v3, v4, v5⟩ := HC.out w7 hP.out.below
              clear e1 hpx hcd hj
              by_cases hp0 : qc = 0
              · have hpn : qn = 0 := by
                  have h : Right qc qn := by simpa [rightB] using hrt2
                  unfold Right at h; omega
                subst hp0
                subst hpn
                have JS : Hid (UaJ cs ws l wa i (j + 1) ⟨pc, pn⟩ ps Ao co (some ⟨bd, od, none⟩) d (w7.alloc (.cells #[.int .i64 0, .int .i64 0] 27)) ∧ ptL ps (j + 1) = ptL ps j) := uaj_skip hP.out E1.out rfl
                go_wp2_with fail
                go_roundw
                case rel => exact ⟨j + 1, Ao, co, by omega, by go_num, by rw [JS.out.2], JS.out.1⟩
                case measure => (simp [intOf]; try omega)
              · have g1 : (qc == 0) = false := beq_eq_false_iff_ne.2 hp0
                have HQ0 := Lib.hid hp0
                obtain ⟨w8, hw8⟩ : ∃ z, z = w7.alloc (.cells #[.int .i64 qc, .int .i64 qn] 27) := ⟨_, rfl⟩
                have hb8 : Below wa.heap.size wa w8 := by rw [hw8]; exact hP.out.below.alloc hP.out.below.size _
                have HUB := Lib.hid (atr_any A _ c cs A' _ c' ws qc qn w8 ((RA.out.below hb8).more hb8.size) ((RA'.out.below hb8).more hb8.size) Z3.out)
                unfold UbPost at HUB
                have HB8 := Lib.hid hb8
                rw [hw8] at HUB
                have HNQ : Hid (¬ (ubE cs ws qc qn = 0 ∧ (ubB cs ws qc qn).Kind = 1 ∧ (ubB cs ws qc qn).Ino = i ∧ (ubB cs ws qc qn).Nth = j) → ∀ w', Below w.heap.size w w' → AlPost cs ws xs gs w (.returned (.tuple #[.slice none 0 0, .bool false])) w') := fun h => HNI.out (okTo_not E1.out hp0 h)
                have HYQ : Hid ((ubE cs ws qc qn = 0 ∧ (ubB cs ws qc qn).Kind = 1 ∧ (ubB cs ws qc qn).Ino = i ∧ (ubB cs ws qc qn).Nth = j) → ptOk cs ws i j ⟨qc, qn⟩) := id
                have HW8 := Lib.hid hw8
                have HB9 : Hid (∀ w9, Below w8.heap.size w8 w9 → ∀ X : Obj, Below w.heap.size w (w9.alloc X)) := fun w9 h X => (HBA.out.trans ((hb8.trans (h.mono hb8.size)).mono HBA.out.size)).alloc (HBA.out.trans ((hb8.trans (h.mono hb8.size)).mono HBA.out.size)).size X
                clear hp0 hb8
                rw [hw8] at HB9
                clear hw8
                generalize ubE cs ws qc qn = E at *
                generalize ubB cs ws qc qn = B at *
                obtain ⟨bk, bi, bn, bt⟩ := B
                simp only at HUB HNQ HYQ
                by_cases hE : E = 0
                · subst hE
                  by_cases h1 : bk = 1
                  · subst h1
                    by_cases h2 : bi = (i : Int)
                    · subst h2
                      by_cases h3 : bn = (j : Int)
                      · subst h3
                        have HY := Lib.hid (HYQ.out ⟨rfl, rfl, rfl, rfl⟩)
                        have HOW := Lib.hid hP.out.own
                        have G2 : Hid (∀ u ∈ (#[.int .i64 qc, .int .i64 qn] : Array Value).toList, u.oneCell' = true) := by simp [Hid, Value.oneCell']
                        have G3 : Hid ((l ++ ((⟨pc, pn⟩ : PlaceD) :: ptL ps j)).length + 1 ≤ maxLen ∧ ((l ++ ((⟨pc, pn⟩ : PlaceD) :: ptL ps j)).length + 1) * 16 ≤ 140737488355328) := by
                          have h1 := HLEN.out
                          have h2 := HLT.out
                          have h3 := ptL_len ps j
                          have h4 := HPL.out
                          have h5 : (l ++ ((⟨pc, pn⟩ : PlaceD) :: ptL ps j)).length = l.length + ((ptL ps j).length + 1) := by rw [List.length_append]; rfl
                          unfold maxLen Hid; omega
                        have G5 : Hid (∀ w9, Below (w7.alloc (.cells #[.int .i64 qc, .int .i64 qn] 27)).heap.size (w7.alloc (.cells #[.int .i64 qc, .int .i64 qn] 27)) w9 → ∀ Y : Obj, Owns (w9.alloc Y) wa.heap.size 2 (.slice Ao (l ++ ((⟨pc, pn⟩ : PlaceD) :: ptL ps j)).length co) (l ++ ((⟨pc, pn⟩ : PlaceD) :: ptL ps j)).length ((l ++ ((⟨pc, pn⟩ : PlaceD) :: ptL ps j)).flatMap PlaceD.cells) ∧ wa.heap.size ≤ (w9.alloc Y).heap.size) := fun w9 h Y => ⟨((HOW.out.alloc _).fresh_below h).alloc Y, by
                          have h1 := h.size
                          have h2 := hP.out.below.size
                          simp at h1 ⊢
                          omega⟩
                        generalize hll : (l ++ ((⟨pc, pn⟩ : PlaceD) :: ptL ps j)).length = ll at *
                        go_wp2_with (first
                          | (go_at_call 41; refine HUB.out.mono ?_; rintro e w9 ⟨rfl, hb9⟩; obtain ⟨kb, kz⟩ := box_keep hb9; have k0 : w9.cell? ⟨w7.heap.size, 0, none⟩ = some (.int .i64 qc) := row_cell kb 0; have k1 : w9.cell? ⟨w7.heap.size, 1, none⟩ = some (.int .i64 qn) := row_cell kb 1; have HB99 := Lib.hid hb9; clear hb9)
                          | (at_builtin; refine wpList_add1 (size := 2) (bytes := 16) (base := wa.heap.size) (H := w9.heap.size + 1) (news := #[.int .i64 qc, .int .i64 qn]) rfl rfl Try.underlying22 info_placeL rfl G4.out (G5.out w9 HB99.out (.cells #[.int .i64 1, .int .i64 i, .int .i64 j, .string bt] 71)).1 rfl (G5.out w9 HB99.out (.cells #[.int .i64 1, .int .i64 i, .int .i64 j, .string bt] 71)).2 rfl (World.size_alloc _ _) rfl G2.out G3.out.1 G3.out.2 ?_; intro A4 c4 w10 hown4 hl4 hn4))
                        subst hll
                        have JA := Lib.hid (uaj_add hP.out E1.out HQ0.out HY.out HB99.out hown4 hl4 hn4)
                        go_roundw
                        case rel => exact ⟨j + 1, A4, c4, by omega, by go_num, by rw [JA.out.2], JA.out.1⟩
                        case measure => (simp [intOf]; try omega)
                      · have g2 : (bn != (j : Int)) = true := bne_iff_ne.2 h3
                        have HN := Lib.hid (HNQ.out (fun h => h3 h.2.2.2))
                        clear h3
                        go_wp2_with (go_at_call 41; refine HUB.out.mono ?_; rintro e w9 ⟨rfl, hb9⟩)
                        go_ret2
                        exact HN.out _ (HB9.out w9 hb9 _)
                    · have g2 : (bi != (i : Int)) = true := bne_iff_ne.2 h2
                      have HN := Lib.hid (HNQ.out (fun h => h2 h.2.2.1))
                      clear h2
                      go_wp2_with (go_at_call 41; refine HUB.out.mono ?_; rintro e w9 ⟨rfl, hb9⟩)
                      go_ret2
                      exact HN.out _ (HB9.out w9 hb9 _)
                  · have g2 : (bk != 1) = true := bne_iff_ne.2 h1
                    have HN := Lib.hid (HNQ.out (fun h => h1 h.2.1))
                    clear h1
                    go_wp2_with (go_at_call 41; refine HUB.out.mono ?_; rintro e w9 ⟨rfl, hb9⟩)
                    go_ret2
                    exact HN.out _ (HB9.out w9 hb9 _)
                · have g2 : (E != 0) = true := bne_iff_ne.2 hE
                  have HN := Lib.hid (HNQ.out (fun h => hE h.1))
                  clear hE
                  go_wp2_with (go_at_call 41; refine HUB.out.mono ?_; rintro e w9 ⟨rfl, hb9⟩)
                  go_ret2
                  exact HN.out _ (HB9.out w9 hb9 _)
            · obtain rfl : j = ps.length := by omega
              have j2 : ¬ ((ps.length : Nat) : Int) < (ps.length : Int) := by omega
              have II : Hid (∀ l1', l1' = l1 → alGood cs ws xs gs (i + 1) ∧ Owns w7 wa.heap.size 2 (.slice Ao l1'.length co) l1'.length (l1'.flatMap PlaceD.cells) ∧ Below wa.heap.size wa w7 ∧ (l ++ ((⟨pc, pn⟩ : PlaceD) :: ptL ps ps.length)).length = l1'.length) := fun l1' h => by
                subst h
                rw [HLI.out]
                exact ⟨HAI.out hP.out.ok, hP.out.own, hP.out.below, rfl⟩
              go_wp2_with fail
              go_roundw
              case rel =>
                obtain ⟨q1, q2, q3, q4⟩ := II.out (alL cs ws xs (i + 1)) HL1.out
                exact ⟨i + 1, Ao, co, by have := HLT.out; omega, by go_num, by rw [q4], ⟨q1, q2, q3⟩⟩
              case measure => (simp [intOf]; try omega)
        · have hnf := alGood_not (m := 48) (cs := cs) (ws := ws) hlt E1.out E2.out (fun h => by rcases h with h | h; exact hp0 h; exact hok h.1)
          have HN := Lib.hid (HNO.out hnf)
          have HUN := Lib.hid (ai_no HUI.out hok)
          clear hok hnf HUI hp0
          go_wp2_with (go_at_call 101; refine HUN.out.mono ?_; rintro e w5 ⟨K, G, S, D, q, d, rfl, hb5⟩; have HB5 := Lib.hid (hP.out.below.trans (hb5.mono hP.out.below.size)))
          go_ret2
          exact HN.out _ (HBA.out.trans ((HB5.out.alloc HB5.out.size _).mono HBA.out.size))
    · obtain rfl : i = 48 := by omega
      have i2 : ¬ ((48 : Nat) : Int) < 48 := by omega
      have HY := Lib.hid (HYES.out hP.out.good)
      go_wp2_with fail
      go_ret2
      exact HY.out _ _ _ (hP.out.own.rows place_two2 (by decide)) (HBA.out.trans (hP.out.below.mono HBA.out.size))
end Go.Proofs.Ytjmgocfoimhmjaa

/- linenref.Count, walked. -/
namespace Go.Proofs.Ytjmgocfoimhmjaa
open Go.RowKit

theorem ptL_mem {ps : List PlaceD} {j : Nat} {q : PlaceD} (h : q ∈ ptL ps j) : q ∈ ps ∧ q.Cell ≠ 0 := by
  unfold ptL at h
  obtain ⟨h1, h2⟩ := List.mem_filter.1 h
  exact ⟨List.mem_of_mem_take h1, of_decide_eq_true h2⟩
theorem al_zero {cs : List ByteArray} {ws : List PutD} {xs : List PlaceD} {gs : List Int} (h : alGood cs ws xs gs 48) (hok : ImapOk xs gs) : ∀ q ∈ alL cs ws xs 48, ubE cs ws q.Cell q.Nth = 0 := fun q hq => by
  unfold alL at hq
  obtain ⟨p, hp, hq⟩ := List.mem_flatMap.1 hq
  obtain ⟨n, hn, e⟩ := List.mem_iff_getElem.1 hp
  have hx := hok.1
  have hg := hok.2.1
  have hn48 : n < 48 := by have := hn; rw [List.length_take] at this; omega
  have e1 : xs[n]? = some p := by
    rw [List.getElem?_eq_getElem (by omega)]
    rw [List.getElem_take] at e
    rw [e]
  have h1 := h n p gs[n] hn48 e1 (List.getElem?_eq_getElem (by omega))
  by_cases hp0 : p.Cell = 0
  · rw [inL_skip hp0] at hq; cases hq
  · rw [inL_add hp0] at hq
    rcases h1 with h1 | ⟨h1, h2⟩
    · exact absurd h1 hp0
    · rcases List.mem_cons.1 hq with rfl | hq
      · exact h1.1
      · obtain ⟨hm, hq0⟩ := ptL_mem hq
        obtain ⟨j, hj, e⟩ := List.mem_iff_getElem.1 hm
        rcases h2 j q hj (by rw [List.getElem?_eq_getElem hj, e]) with h2 | h2
        · exact absurd h2 hq0
        · exact h2.1
structure UrI (cs : List ByteArray) (ws : List PutD) (l : List PlaceD) (b : Nat) (wa : World) (D : Option Addr) (d i : Nat) (wr : World) : Prop where
  own : Owns wr wa.heap.size 1 (.slice (some ⟨b, 0, none⟩) cs.length cs.length) cs.length ((cnt cs ws (l.take i)).map (Value.int .i64))
  rows : RowsIn wr wr.heap.size D l.length d PlaceD.cells 2 l
  below : Below wa.heap.size wa wr
theorem al_yes {f : FuncId} {args : Array Value} {cs : List ByteArray} {ws : List PutD} {xs : List PlaceD} {gs : List Int} {W : World} (h : Calls Try.prog f args W (AlPost cs ws xs gs W)) (hg : alGood cs ws xs gs 48) :
    Calls Try.prog f args W fun e w' => ∃ (D : Option Addr) (d : Nat), e = .returned (.tuple #[.slice D (alL cs ws xs 48).length d, .bool true]) ∧ RowsIn w' w'.heap.size D (alL cs ws xs 48).length d PlaceD.cells 2 (alL cs ws xs 48) ∧ Below W.heap.size W w' :=
  h.mono fun _ _ h => by
    rcases h with ⟨_, h⟩ | ⟨h, _⟩
    · exact h
    · exact absurd hg h
theorem al_no {f : FuncId} {args : Array Value} {cs : List ByteArray} {ws : List PutD} {xs : List PlaceD} {gs : List Int} {W : World} (h : Calls Try.prog f args W (AlPost cs ws xs gs W)) (hg : ¬ alGood cs ws xs gs 48) :
    Calls Try.prog f args W fun e w' => e = .returned (.tuple #[.slice none 0 0, .bool false]) ∧ Below W.heap.size W w' :=
  h.mono fun _ _ h => by
    rcases h with ⟨h, _⟩ | ⟨_, h⟩
    · exact absurd h hg
    · exact h

set_option maxRecDepth 20000 in
set_option maxHeartbeats 8000000 in
theorem ucr_any (A : Option Addr) (n c : Nat) (cs : List ByteArray) (A' : Option Addr) (n' c' : Nat) (ws : List PutD) (Am : Option Addr) (nm cm : Nat) (xs : List PlaceD) (Ag : Option Addr) (ng cg : Nat) (gs : List Int) (w : World) (r : RowsIn w w.heap.size A n c (fun z => [.string z]) 1 cs) (r' : RowsIn w w.heap.size A' n' c' PutD.cells 2 ws) (rm : RowsIn w w.heap.size Am nm cm PlaceD.cells 2 xs) (rg : RowsIn w w.heap.size Ag ng cg (fun z => [.int .i64 z]) 1 gs) :
    Calls Try.prog 43 #[.agg #[.slice A n c, .slice A' n' c'], .agg #[.slice Am nm cm, .slice Ag ng cg]] w (UcPost cs ws xs gs w) := by
  have hlen := r.len
  subst hlen
  have hlen' := r'.len
  subst hlen'
  have hlenm := rm.len
  subst hlenm
  have hleng := rg.len
  subst hleng
  obtain ⟨wa, hwa⟩ : ∃ wa, wa = (w.alloc (.cells #[.slice A cs.length c, .slice A' ws.length c'] 41)).alloc (.cells #[.slice Am xs.length cm, .slice Ag gs.length cg] 25) := ⟨_, rfl⟩
  have hza : wa.heap.size = w.heap.size + 2 := by rw [hwa]; simp
  have hba : Below w.heap.size w wa := by rw [hwa]; exact ((Below.refl _ _).alloc (Nat.le_refl _) _).alloc (by simp) _
  have hrm : wa.heap[w.heap.size + 1]? = some (.cells #[.slice Am xs.length cm, .slice Ag gs.length cg] 25 (0, 0)) := by
    rw [hwa]
    have := heap_alloc_new (w.alloc (.cells #[.slice A cs.length c, .slice A' ws.length c'] 41)) (.cells #[.slice Am xs.length cm, .slice Ag gs.length cg] 25)
    rw [show (w.alloc (.cells #[.slice A cs.length c, .slice A' ws.length c'] 41)).heap.size = w.heap.size + 1 by simp] at this
    exact this
  have hrb : wa.heap[w.heap.size]? = some (.cells #[.slice A cs.length c, .slice A' ws.length c'] 41 (0, 0)) := by
    rw [hwa]; exact (heap_alloc_old _ _ (by simp)).trans (heap_alloc_new w _)
  have hle := hba.size
  have RA := Lib.hid ((r.below hba).more hle)
  have RA' := Lib.hid ((r'.below hba).more hle)
  have RM := Lib.hid ((rm.below hba).more hle)
  have RG := Lib.hid ((rg.below hba).more hle)
  have HC : Hid (∀ W, Below wa.heap.size wa W → W.cell? ⟨w.heap.size, 0, none⟩ = some (.slice A cs.length c) ∧ W.cell? ⟨w.heap.size, 1, none⟩ = some (.slice A' ws.length c') ∧ W.cell? ⟨w.heap.size + 1, 0, none⟩ = some (.slice Am xs.length cm) ∧ W.cell? ⟨w.heap.size + 1, 1, none⟩ = some (.slice Ag gs.length cg) ∧ w.heap.size < W.heap.size ∧ w.heap.size + 1 < W.heap.size) := fun W h => by
    have q0 := row_below hrb (row_lt hrb) h
    have q1 := row_below hrm (row_lt hrm) h
    exact ⟨row_cell q0 0, row_cell q0 1, row_cell q1 0, row_cell q1 1, row_lt q0, row_lt q1⟩
  have HCK := Lib.hid (dskr_any A _ c cs A' _ c' ws wa RA.out RA'.out)
  have HIM : Hid (∀ W, Below wa.heap.size wa W → Calls Try.prog 17 #[.agg #[.slice Am xs.length cm, .slice Ag gs.length cg]] W fun e w' => e = .returned (.int .i64 (impE xs gs)) ∧ Below W.heap.size W w') := fun W h => imapr_any Am _ cm xs Ag _ cg gs W ((RM.out.below h).more h.size) ((RG.out.below h).more h.size)
  have HWA := Lib.hid hwa
  have HBA := Lib.hid hba
  clear r r' rm rg hwa hba hrb hrm hle hza
  by_cases hd : dskE cs ws = 0
  · have HD := Lib.hid hd
    rw [hd] at HCK
    by_cases hi : impE xs gs = 0
    · have HIE := Lib.hid hi
      rw [hi] at HIM
      obtain ⟨z1, z2, _, _, z3⟩ := dsk_zero hd
      have hok : ImapOk xs gs := by
        by_cases hk : ImapOk xs gs
        · exact hk
        · rw [impE_no hk] at hi; cases hi
      have HX := Lib.hid hok
      have Z2 := Lib.hid z2
      have Z3 := Lib.hid z3
      have HAL : Hid (∀ W, Below wa.heap.size wa W → Calls Try.prog 78 #[.agg #[.slice A cs.length c, .slice A' ws.length c'], .agg #[.slice Am xs.length cm, .slice Ag gs.length cg]] W (AlPost cs ws xs gs W)) := fun W h => alive_any A _ c cs A' _ c' ws Am _ cm xs Ag _ cg gs W ((RA.out.below h).more h.size) ((RA'.out.below h).more h.size) ((RM.out.below h).more h.size) ((RG.out.below h).more h.size) HD.out HX.out
      by_cases hga : alGood cs ws xs gs 48
      · have HALY : Hid (∀ W, Below wa.heap.size wa W → Calls Try.prog 78 #[.agg #[.slice A cs.length c, .slice A' ws.length c'], .agg #[.slice Am xs.length cm, .slice Ag gs.length cg]] W fun e w' => ∃ (D : Option Addr) (d : Nat), e = .returned (.tuple #[.slice D (alL cs ws xs 48).length d, .bool true]) ∧ RowsIn w' w'.heap.size D (alL cs ws xs 48).length d PlaceD.cells 2 (alL cs ws xs 48) ∧ Below W.heap.size W w') := fun W h => al_yes (HAL.out W h) hga
        have HZ : Hid (∀ q ∈ alL cs ws xs 48, ubE cs ws q.Cell q.Nth = 0) := al_zero hga hok
        have HLEN : Hid ((alL cs ws xs 48).length ≤ 9 * 48) := alL_len 48
        have hF := uc_ok HD.out HIE.out hga
        have F := Lib.hid hF
        have hmk := mk_zeros cs.length z2
        clear hd hi z1 z2 z3 hok hga hF HAL
        generalize hl0 : alL cs ws xs 48 = l at *
        clear hl0
        go_enter Try.func43, Try.ntmps43
        go_wp2_with (first
          | (go_at_call 26; rw [← HWA.out]; refine HCK.out.mono ?_; rintro e w1 ⟨rfl, hb1⟩; obtain ⟨v0, v1, v2, v3, v4, v5⟩ := HC.out w1 hb1; have HB1 := Lib.hid hb1; clear hb1)
          | (go_at_call 17; refine (HIM.out _ HB1.out).mono ?_; rintro e w2 ⟨rfl, hb2⟩; have HB2 := Lib.hid (HB1.out.trans (hb2.mono HB1.out.size)); obtain ⟨u0, u1, u2, u3, u4, u5⟩ := HC.out w2 HB2.out; clear hb2)
          | (go_at_call 78; refine (HALY.out _ HB2.out).mono ?_; rintro e w3 ⟨D, d, rfl, r3, hb3⟩; have R3 := Lib.hid r3; have HB3 := Lib.hid (HB2.out.trans (hb3.mono HB2.out.size)); obtain ⟨t0, t1, t2, t3, t4, t5⟩ := HC.out w3 HB3.out; clear hb3 r3))
        have I0 : Hid (UrI cs ws l w3.heap.size wa D d 0 (w3.alloc (.cells (Array.replicate cs.length (.int .i64 0)) 3))) :=
          { own := own_zeros Z2.out HB3.out.size _, rows := (R3.out.alloc (Nat.le_refl _) _).more (by simp), below := HB3.out.alloc HB3.out.size _ }
        have HFAR : Hid (∀ b o, D = some ⟨b, o, none⟩ → 0 < l.length → b ≠ w3.heap.size) := fun b o h h0 e => by
          have h2 := R3.out
          rw [h] at h2
          have := rows_ltU h2 h0
          omega
        have HLO : Hid (wa.heap.size ≤ w3.heap.size) := HB3.out.size
        clear t0 t1 t2 t3 t4 t5 v0 v1 v2 v3 v4 v5 u0 u1 u2 u3 u4 u5 hmk HCK HIM HALY HB1 HB2 R3
        go_loopw [39] (fun v39 wr => ∃ i : Nat, i ≤ l.length ∧ v39 = .int .i64 i ∧ Hid (UrI cs ws l w3.heap.size wa D d i wr)) (fun v39 _ => l.length - (intOf v39).toNat)
        case atStart => exact ⟨0, Nat.zero_le _, rfl, I0.out⟩
        case round =>
          obtain ⟨i, hi, rfl, hP⟩ := hrel
          obtain ⟨w4, rfl⟩ : ∃ z : World, z = wr := ⟨_, rfl⟩
          clear I0
          by_cases hlt : i < l.length
          · have e1 := List.getElem?_eq_getElem hlt
            generalize hpx : l[i] = p at e1
            obtain ⟨pc, pn⟩ := p
            have hz : ubE cs ws pc pn = 0 := HZ.out ⟨pc, pn⟩ (List.mem_of_getElem? e1)
            obtain ⟨q2, qN, qn⟩ := ubE_zero hz
            obtain ⟨pk, rfl⟩ : ∃ pk : Nat, pc = pk := ⟨pc.toNat, by omega⟩
            obtain ⟨bd, od, hD, hbd, hcd⟩ := hP.out.rows.at_ i _ e1
            have c0 : w4.cell? ⟨bd, od + i * 2, none⟩ = some (.int .i64 (pk : Int)) := by simpa using hcd 0 _ rfl
            have c1 : w4.cell? ⟨bd, od + i * 2 + 1, none⟩ = some (.int .i64 pn) := hcd 1 _ rfl
            have i1 : (i : Int) < (l.length : Int) := by omega
            have i9 : (i : Int) < 432 := by have := HLEN.out; omega
            subst hD
            obtain ⟨v0, v1, v2, v3, v4, v5⟩ := HC.out w4 hP.out.below
            obtain ⟨w8, hw8⟩ : ∃ z, z = w4.alloc (.cells #[.int .i64 (pk : Int), .int .i64 pn] 27) := ⟨_, rfl⟩
            have hb8 : Below wa.heap.size wa w8 := by rw [hw8]; exact hP.out.below.alloc hP.out.below.size _
            have HUB := Lib.hid (atr_any A _ c cs A' _ c' ws pk pn w8 ((RA.out.below hb8).more hb8.size) ((RA'.out.below hb8).more hb8.size) Z3.out)
            unfold UbPost at HUB
            rw [hw8, hz] at HUB
            obtain ⟨v, hv, hv0, hv1⟩ := cnt_at (l := l.take i) HD.out (show pk < cs.length by omega) (by rw [List.length_take]; have := HLEN.out; omega)
            have HV := Lib.hid hv
            have HADD := Lib.hid (cnt_add (pn := pn) hv)
            have HTK : Hid (l.take (i + 1) = l.take i ++ [(⟨(pk : Int), pn⟩ : PlaceD)]) := by rw [Hid, List.take_add_one, e1]; rfl
            have HSZ : Hid ((ubB cs ws pk pn).Text.size ≤ 1024) := ubB_size HD.out pk pn
            have i3 : (pk : Int) < (cs.length : Int) := by omega
            clear e1 hpx hcd hz q2 qN qn hv hw8 hb8 hlt hi
            generalize ubB cs ws pk pn = B at *
            obtain ⟨bk, bi, bn, bt⟩ := B
            simp only at HUB HADD HSZ
            go_wp2_with (go_at_call 41; refine HUB.out.mono ?_; rintro e w9 ⟨rfl, hb9⟩; have HB9 := Lib.hid hb9; clear hb9)
            have HB10 : Hid (Below (w4.alloc (.cells #[.int .i64 (pk : Int), .int .i64 pn] 27)).heap.size (w4.alloc (.cells #[.int .i64 (pk : Int), .int .i64 pn] 27)) (w9.alloc (.cells #[.int .i64 bk, .int .i64 bi, .int .i64 bn, .string bt] 71))) := HB9.out.alloc HB9.out.size _
            have HN := Lib.hid (heap_alloc_new w9 (.cells #[.int .i64 bk, .int .i64 bi, .int .i64 bn, .string bt] 71))
            generalize w9.alloc (.cells #[.int .i64 bk, .int .i64 bi, .int .i64 bn, .string bt] 71) = wq at *
            obtain ⟨kb, kz⟩ := box_keep HB10.out
            have k0 : wq.cell? ⟨w4.heap.size, 0, none⟩ = some (.int .i64 (pk : Int)) := row_cell kb 0
            have k3 : wq.cell? ⟨w9.heap.size, 3, none⟩ = some (.string bt) := row_cell HN.out 3
            have OQ := Lib.hid ((hP.out.own.alloc (.cells #[.int .i64 (pk : Int), .int .i64 pn] 27)).fresh_below HB10.out)
            have RQ := Lib.hid (((hP.out.rows.alloc (Nat.le_refl _) (.cells #[.int .i64 (pk : Int), .int .i64 pn] 27)).more (by simp)).below HB10.out)
            have BQ := Lib.hid ((hP.out.below.alloc hP.out.below.size (.cells #[.int .i64 (pk : Int), .int .i64 pn] 27)).trans (HB10.out.mono (hP.out.below.alloc hP.out.below.size _).size))
            obtain ⟨l0, l1⟩ := own_hereC OQ.out (j := pk) (u := .int .i64 v) (by rw [List.getElem?_map, HV.out]; rfl)
            rw [Nat.zero_add] at l0 l1
            have hs0 : 0 ≤ (bt.size : Int) := by omega
            have hs1 : (bt.size : Int) ≤ 1024 := by have := HSZ.out; omega
            clear kb v0 v1 v2 v3 v4 v5 c0 c1 HC HUB
            have I1 : Hid (UrI cs ws l w3.heap.size wa (some ⟨bd, od, none⟩) d (i + 1) ((wq.setCell ⟨w3.heap.size, pk, none⟩ (.int .i64 (v + (bt.size : Int)))).drew)) :=
              { own := by
                  rw [HTK.out, HADD.out]
                  have := OQ.out.set pk (.int .i64 (v + (bt.size : Int)))
                  rw [Nat.zero_add] at this
                  exact this.drew
                rows := ((aside_cellU RQ.out HFAR.out (.int .i64 (v + (bt.size : Int)))).drew).more (by have := HB10.out.size; simp only [World.size_drew, World.size_setCell]; exact this)
                below := (BQ.out.setCell HLO.out _).drew }
            go_region_law (fail)
            all_goals
              go_wp2_with fail
              go_roundw
              case rel => exact ⟨i + 1, by omega, by go_num, I1.out⟩
              case measure => (simp [intOf]; try omega)
          · obtain rfl : i = l.length := by omega
            have i2 : ¬ (l.length : Int) < (l.length : Int) := by omega
            go_wp2_with fail
            go_ret2
            refine ⟨_, _, _, by rw [F.out.1] <;> rfl, ?_, HBA.out.trans (hP.out.below.mono HBA.out.size)⟩
            have := own_intsI hP.out.own
            rw [List.take_length] at this
            rw [F.out.2]; exact this
      · have F := Lib.hid (uc_no HD.out HIE.out hga)
        have HALN : Hid (∀ W, Below wa.heap.size wa W → Calls Try.prog 78 #[.agg #[.slice A cs.length c, .slice A' ws.length c'], .agg #[.slice Am xs.length cm, .slice Ag gs.length cg]] W fun e w' => e = .returned (.tuple #[.slice none 0 0, .bool false]) ∧ Below W.heap.size W w') := fun W h => al_no (HAL.out W h) hga
        clear hd hi z1 z2 z3 hok hga HAL
        go_enter Try.func43, Try.ntmps43
        go_wp2_with (first
          | (go_at_call 26; rw [← HWA.out]; refine HCK.out.mono ?_; rintro e w1 ⟨rfl, hb1⟩; obtain ⟨v0, v1, v2, v3, v4, v5⟩ := HC.out w1 hb1; have HB1 := Lib.hid hb1; clear hb1)
          | (go_at_call 17; refine (HIM.out _ HB1.out).mono ?_; rintro e w2 ⟨rfl, hb2⟩; have HB2 := Lib.hid (HB1.out.trans (hb2.mono HB1.out.size)); obtain ⟨u0, u1, u2, u3, u4, u5⟩ := HC.out w2 HB2.out; clear hb2)
          | (go_at_call 78; refine (HALN.out _ HB2.out).mono ?_; rintro e w3 ⟨rfl, hb3⟩; have HB3 := Lib.hid (HB2.out.trans (hb3.mono HB2.out.size)); clear hb3))
        go_ret2
        exact ucPost_bad F.out (by decide) (HBA.out.trans (HB3.out.mono HBA.out.size))
    · have F := Lib.hid (uc_imp hd hi)
      have hi0 := Lib.hid hi
      have g1 : (impE xs gs != 0) = true := bne_iff_ne.2 hi
      generalize impE xs gs = ie at *
      clear hd hi
      go_enter Try.func43, Try.ntmps43
      go_wp2_with (first
        | (go_at_call 26; rw [← HWA.out]; refine HCK.out.mono ?_; rintro e w1 ⟨rfl, hb1⟩; obtain ⟨v0, v1, v2, v3, v4, v5⟩ := HC.out w1 hb1; have HB1 := Lib.hid hb1; clear hb1)
        | (go_at_call 17; refine (HIM.out _ HB1.out).mono ?_; rintro e w2 ⟨rfl, hb2⟩; have HB2 := Lib.hid (HB1.out.trans (hb2.mono HB1.out.size)); clear hb2))
      go_ret2
      exact ucPost_bad F.out hi0.out (HBA.out.trans (HB2.out.mono HBA.out.size))
  · have F := Lib.hid (uc_dsk (xs := xs) (gs := gs) hd)
    have hd0 := Lib.hid hd
    have g1 : (dskE cs ws != 0) = true := bne_iff_ne.2 hd
    generalize dskE cs ws = de at *
    clear hd
    go_enter Try.func43, Try.ntmps43
    go_wp2_with (go_at_call 26; rw [← HWA.out]; refine HCK.out.mono ?_; rintro e w1 ⟨rfl, hb1⟩; have HB1 := Lib.hid hb1; clear hb1)
    go_ret2
    exact ucPost_bad F.out hd0.out (HBA.out.trans (HB1.out.mono HBA.out.size))
end Go.Proofs.Ytjmgocfoimhmjaa

/- The law UseCounts, walked: it returns true for every disk and every imap. -/
namespace Go.Proofs.Ytjmgocfoimhmjaa.lUseCounts
open Go.RowKit

set_option maxRecDepth 20000 in
set_option maxHeartbeats 1000000 in
theorem walk (A : Option Addr) (n c : Nat) (cs : List ByteArray) (A' : Option Addr) (n' c' : Nat) (ws : List PutD) (Am : Option Addr) (nm cm : Nat) (xs : List PlaceD) (Ag : Option Addr) (ng cg : Nat) (gs : List Int) (w : World) (r : RowsIn w w.heap.size A n c (fun z => [.string z]) 1 cs) (_o0 : ∀ z ∈ cs, (fun z => z.size ≤ maxLen) z) (_s0 : c * 16 ≤ 140737488351232) (r' : RowsIn w w.heap.size A' n' c' PutD.cells 2 ws) (_o1 : ∀ z ∈ ws, PutD.ok z) (_s1 : c' * 24 ≤ 140737488351232) (rm : RowsIn w w.heap.size Am nm cm PlaceD.cells 2 xs) (_o2 : ∀ z ∈ xs, PlaceD.ok z) (_s2 : cm * 16 ≤ 140737488351232) (rg : RowsIn w w.heap.size Ag ng cg (fun z => [.int .i64 z]) 1 gs) (_o3 : ∀ z ∈ gs, (fun z => (Lit.int .i64 z).wf = true) z) (_s3 : cg * 8 ≤ 140737488351232) :
    Calls Try.prog 10 #[.agg #[.slice A n c, .slice A' n' c'], .agg #[.slice Am nm cm, .slice Ag ng cg]] w fun e w' => e = .returned (.bool true) ∧ Below w.heap.size w w' := by
  clear _o0 _s0 _o1 _s1 _o2 _s2 _o3 _s3
  obtain ⟨wa, hwa⟩ : ∃ wa, wa = (w.alloc (.cells #[.slice A n c, .slice A' n' c'] 41)).alloc (.cells #[.slice Am nm cm, .slice Ag ng cg] 25) := ⟨_, rfl⟩
  have hba : Below w.heap.size w wa := by rw [hwa]; exact ((Below.refl _ _).alloc (Nat.le_refl _) _).alloc (by simp) _
  have hrm : wa.heap[w.heap.size + 1]? = some (.cells #[.slice Am nm cm, .slice Ag ng cg] 25 (0, 0)) := by
    rw [hwa]
    have := heap_alloc_new (w.alloc (.cells #[.slice A n c, .slice A' n' c'] 41)) (.cells #[.slice Am nm cm, .slice Ag ng cg] 25)
    rw [show (w.alloc (.cells #[.slice A n c, .slice A' n' c'] 41)).heap.size = w.heap.size + 1 by simp] at this
    exact this
  have hrb : wa.heap[w.heap.size]? = some (.cells #[.slice A n c, .slice A' n' c'] 41 (0, 0)) := by
    rw [hwa]; exact (heap_alloc_old _ _ (by simp)).trans (heap_alloc_new w _)
  have RA := Lib.hid ((r.below hba).more hba.size)
  have RA' := Lib.hid ((r'.below hba).more hba.size)
  have RM := Lib.hid ((rm.below hba).more hba.size)
  have RG := Lib.hid ((rg.below hba).more hba.size)
  have HC : Hid (∀ W, Below wa.heap.size wa W → W.cell? ⟨w.heap.size, 0, none⟩ = some (.slice A n c) ∧ W.cell? ⟨w.heap.size, 1, none⟩ = some (.slice A' n' c') ∧ W.cell? ⟨w.heap.size + 1, 0, none⟩ = some (.slice Am nm cm) ∧ W.cell? ⟨w.heap.size + 1, 1, none⟩ = some (.slice Ag ng cg) ∧ w.heap.size < W.heap.size ∧ w.heap.size + 1 < W.heap.size) := fun W h => by
    have q0 := row_below hrb (row_lt hrb) h
    have q1 := row_below hrm (row_lt hrm) h
    exact ⟨row_cell q0 0, row_cell q0 1, row_cell q1 0, row_cell q1 1, row_lt q0, row_lt q1⟩
  have H1 : Hid (∀ W, Below wa.heap.size wa W → Calls Try.prog 42 #[.agg #[.slice A n c, .slice A' n' c'], .agg #[.slice Am nm cm, .slice Ag ng cg]] W (UcPost cs ws xs gs W)) := fun W h => usec_any A n c cs A' n' c' ws Am nm cm xs Ag ng cg gs W ((RA.out.below h).more h.size) ((RA'.out.below h).more h.size) ((RM.out.below h).more h.size) ((RG.out.below h).more h.size)
  have H2 : Hid (∀ W, Below wa.heap.size wa W → Calls Try.prog 43 #[.agg #[.slice A n c, .slice A' n' c'], .agg #[.slice Am nm cm, .slice Ag ng cg]] W (UcPost cs ws xs gs W)) := fun W h => ucr_any A n c cs A' n' c' ws Am nm cm xs Ag ng cg gs W ((RA.out.below h).more h.size) ((RA'.out.below h).more h.size) ((RM.out.below h).more h.size) ((RG.out.below h).more h.size)
  unfold UcPost at H1 H2
  have HQ : Hid (∀ (D : Option Addr) (q d : Nat) (D' : Option Addr) (q' d' B B' : Nat) (W : World), RowsIn W B D q d (fun z => [.int .i64 z]) 1 (ucL cs ws xs gs) → RowsIn W B' D' q' d' (fun z => [.int .i64 z]) 1 (ucL cs ws xs gs) → Calls Try.prog 44 #[.slice D q d, .slice D' q' d'] W fun e w' => e = .returned (.bool true) ∧ Below W.heap.size W w') := fun D q d D' q' d' B B' W h h' => by
    have := eqi_any D q d _ D' q' d' _ B B' W h h'
    rw [eqB_yes rfl] at this; exact this
  generalize ucE cs ws xs gs = E at *
  generalize ucL cs ws xs gs = L at *
  have HWA := Lib.hid hwa
  have HBA := Lib.hid hba
  clear r r' rm rg hwa hba hrb hrm
  go_enter Try.func10, Try.ntmps10
  go_wp2_with (first
    | (go_at_call 42; rw [← HWA.out]; refine (H1.out _ (Below.refl _ _)).mono ?_; rintro e w1 ⟨D, q, d, rfl, r1, hb1⟩; have HB1 := Lib.hid hb1; have R1 := Lib.hid r1; obtain ⟨u0, u1, u2, u3, u4, u5⟩ := HC.out w1 hb1; clear r1 hb1)
    | (go_at_call 43; refine (H2.out _ HB1.out).mono ?_; rintro e w2 ⟨D', q', d', rfl, r2, hb2⟩; have HB2 := Lib.hid (HB1.out.trans (hb2.mono HB1.out.size)); have R2 := Lib.hid r2; have R1' := Lib.hid (R1.out.below hb2); clear r2 hb2)
    | (go_at_call 44; refine (HQ.out _ _ _ _ _ _ _ _ _ R1'.out R2.out).mono ?_; rintro e w3 ⟨rfl, hb3⟩))
  go_ret
  exact ⟨rfl, HBA.out.trans ((HB2.out.trans (hb3.mono HB2.out.size)).mono HBA.out.size)⟩
end Go.Proofs.Ytjmgocfoimhmjaa.lUseCounts

namespace Go.Proofs.Ytjmgocfoimhmjaa.lUseCounts
open Go.ChangeShapes Go.WideShapes Go.ChangeAt Go.RowKit Go.Deep
open Go.ChangeMaps (open_string shut_string)
set_option linter.unusedVariables false

theorem own : ownKnob Try.prog.godebug = none := by kernel_rfl
theorem laidOut : laidOutB Try.prog = true := by kernel_rfl

theorem el_PutD {H : Type} {enc : TypeId × Value → H} {w : World} {base : Nat} {spare : Nat → Bool} {held : Bool} : ∀ (m : Nat) (cs : List Value) (y : DataW H × List MemPlace), DataW.trod enc Try.prog w base spare held m 100 cs = some y → ∃ z : PutD, cs = z.cells ∧ z.ok := by
  intro m cs y h
  obtain ⟨hl, ys, _, _, hf⟩ := el_fields Try.underlying100 (by kernel_rfl) (by kernel_rfl) h
  obtain ⟨v0, z0, m0, c0, _, t0⟩ := hf 0 _ rfl
  obtain ⟨a0, e0, _, w0⟩ := DataW.trod_int Try.underlying3 t0
  simp only [List.cons.injEq, and_true] at e0
  subst e0
  obtain ⟨v1, z1, m1, c1, _, t1⟩ := hf 1 _ rfl
  obtain ⟨a1, e1, _, w1⟩ := DataW.trod_string Try.underlying9 t1
  simp only [List.cons.injEq, and_true] at e1
  subst e1
  exact ⟨⟨a0, a1⟩, list2 hl c0 c1, ⟨w0, w1⟩⟩

theorem el_PlaceD {H : Type} {enc : TypeId × Value → H} {w : World} {base : Nat} {spare : Nat → Bool} {held : Bool} : ∀ (m : Nat) (cs : List Value) (y : DataW H × List MemPlace), DataW.trod enc Try.prog w base spare held m 27 cs = some y → ∃ z : PlaceD, cs = z.cells ∧ z.ok := by
  intro m cs y h
  obtain ⟨hl, ys, _, _, hf⟩ := el_fields Try.underlying27 (by kernel_rfl) (by kernel_rfl) h
  obtain ⟨v0, z0, m0, c0, _, t0⟩ := hf 0 _ rfl
  obtain ⟨a0, e0, _, w0⟩ := DataW.trod_int Try.underlying3 t0
  simp only [List.cons.injEq, and_true] at e0
  subst e0
  obtain ⟨v1, z1, m1, c1, _, t1⟩ := hf 1 _ rfl
  obtain ⟨a1, e1, _, w1⟩ := DataW.trod_int Try.underlying3 t1
  simp only [List.cons.injEq, and_true] at e1
  subst e1
  exact ⟨⟨a0, a1⟩, list2 hl c0 c1, ⟨w0, w1⟩⟩

set_option maxRecDepth 100000 in
theorem lifted (os : Os) (started : os.Started) (H : Type) (enc : TypeId × Value → H) :
    ReturnsInHanded {} Try.checked os 10 .any (Rows.useCountsSpec.pre6 enc Try.prog Try.f10 Rows.useCountsRow.domain false) (Rows.useCountsSpec.post enc Try.prog Try.f10 false true false false) := by
  refine returnsInHanded_of_change_sized (C := Try.checked) own started (by kernel_rfl) Try.func10
    (ChangeSpec.witness6 (enc := enc) (C := Try.checked) false ⟨#[], #[.agg #[.slice none 0 0, .slice none 0 0], .agg #[.slice none 0 0, .slice none 0 0]], []⟩ 8 (by kernel_rfl) (by kernel_rfl) (by kernel_rfl) (by kernel_rfl)) ?_
  intro W base args ds gs before hval0 hW hcnd hsz0 _
  have hval : ∀ (j : Nat) t v, Try.f10.params[j]? = some t → args[j]? = some v → Value.okWide Try.prog W .any base t v := hval0
  have hW' := hW
  obtain ⟨p, q, hA0, hV, rfl, hfz, hnd⟩ := hW
  have hA : DataW.TrodAll enc Try.prog W 0 (fun _ => true) true Try.f10.params.toList args.toList ds p := hA0
  rw [Try.params10] at hA hval
  obtain ⟨v0, vs0, d0, ds0, p0, q0, hargs, rfl, rfl, h0, t0⟩ := trodAll_cons hA
  obtain ⟨v1, vs1, d1, ds1, p1, q1, rfl, rfl, rfl, h1, t1⟩ := trodAll_cons t0
  obtain ⟨rfl, rfl, rfl⟩ := trodAll_nil t1
  obtain rfl : args = #[v0, v1] := by cases args; simp_all
  obtain ⟨rfl, rfl⟩ := trodVars_none hV
  have k0 := h0
  have lt0 : ∀ x ∈ p0, x.block < W.heap.size := by obtain ⟨m, hm⟩ := k0; exact DataW.trod_lt m _ _ _ hm
  have k1 := h1
  have lt1 : ∀ x ∈ p1, x.block < W.heap.size := by obtain ⟨m, hm⟩ := k1; exact DataW.trod_lt m _ _ _ hm
  have hsz : (DataW.weightsEach Try.prog [41, 25] [d0, d1]).all (· ≤ reachBytes) = true := by have := hsz0; rw [Try.params10] at this; exact this
  obtain ⟨⟨l0⟩, rfl, _⟩ := okWide_struct Try.underlying41 (hval 0 41 v0 rfl rfl)
  obtain ⟨fuel0, hf0⟩ := h0
  obtain ⟨hl0, ys0, hyl0, hy0, hfl0⟩ := el_fields Try.underlying41 (by kernel_rfl) (by kernel_rfl) hf0
  have hd0 : d0 = .agg (ys0.map (·.1)) := congrArg Prod.fst hy0
  have hsf0 := sized_agg hsz (j := 0) (t := 41) rfl (congrArg some hd0) Try.underlying41
  obtain ⟨v0_0, z0_0, m0_0, c_0_0, yz0_0, t0_0⟩ := hfl0 0 _ rfl
  obtain ⟨a0_0, n0_0, c0_0, rfl, ⟨x0_0, r0_0, o0_0⟩, g0_0⟩ := open_rows_v (cells := (fun z => [.string z])) (ok := (fun z => z.size ≤ maxLen)) (k := 1) Try.underlying38 (by kernel_rfl) (by decide) (el_string Try.underlying9) t0_0
  have s0_0 : c0_0 * 16 ≤ 140737488351232 := by
    rcases g0_0 with ⟨_, _, hc, _⟩ | ⟨elems, sp, hd, hl, hs⟩
    · subst hc; omega
    · have hb : Try.prog.bytesOf 9 = 16 := by kernel_rfl
      have hle := r0_0.le
      have hsp : elems.length + sp.length = c0_0 := by rw [hl, hs (fun _ => rfl)]; omega
      have := sized_slice hsf0 (j := 0) (t := 38) (e := 9) (elems := elems) (spare := sp) rfl (by rw [List.getElem?_map, yz0_0]; exact congrArg some hd) Try.underlying38
      rw [hb, hsp] at this
      simpa [reachBytes] using this
  obtain ⟨v0_1, z0_1, m0_1, c_0_1, yz0_1, t0_1⟩ := hfl0 1 _ rfl
  obtain ⟨a0_1, n0_1, c0_1, rfl, ⟨x0_1, r0_1, o0_1⟩, g0_1⟩ := open_rows_v (cells := PutD.cells) (ok := PutD.ok) (k := 2) Try.underlying39 (by kernel_rfl) (by decide) (el_PutD (enc := enc)) t0_1
  have s0_1 : c0_1 * 24 ≤ 140737488351232 := by
    rcases g0_1 with ⟨_, _, hc, _⟩ | ⟨elems, sp, hd, hl, hs⟩
    · subst hc; omega
    · have hb : Try.prog.bytesOf 100 = 24 := by kernel_rfl
      have hle := r0_1.le
      have hsp : elems.length + sp.length = c0_1 := by rw [hl, hs (fun _ => rfl)]; omega
      have := sized_slice hsf0 (j := 1) (t := 39) (e := 100) (elems := elems) (spare := sp) rfl (by rw [List.getElem?_map, yz0_1]; exact congrArg some hd) Try.underlying39
      rw [hb, hsp] at this
      simpa [reachBytes] using this
  obtain rfl := list2 hl0 c_0_0 c_0_1
  obtain ⟨⟨l1⟩, rfl, _⟩ := okWide_struct Try.underlying25 (hval 1 25 v1 rfl rfl)
  obtain ⟨fuel1, hf1⟩ := h1
  obtain ⟨hl1, ys1, hyl1, hy1, hfl1⟩ := el_fields Try.underlying25 (by kernel_rfl) (by kernel_rfl) hf1
  have hd1 : d1 = .agg (ys1.map (·.1)) := congrArg Prod.fst hy1
  have hsf1 := sized_agg hsz (j := 1) (t := 25) rfl (congrArg some hd1) Try.underlying25
  obtain ⟨v1_0, z1_0, m1_0, c_1_0, yz1_0, t1_0⟩ := hfl1 0 _ rfl
  obtain ⟨a1_0, n1_0, c1_0, rfl, ⟨x1_0, r1_0, o1_0⟩, g1_0⟩ := open_rows_v (cells := PlaceD.cells) (ok := PlaceD.ok) (k := 2) Try.underlying22 (by kernel_rfl) (by decide) (el_PlaceD (enc := enc)) t1_0
  have s1_0 : c1_0 * 16 ≤ 140737488351232 := by
    rcases g1_0 with ⟨_, _, hc, _⟩ | ⟨elems, sp, hd, hl, hs⟩
    · subst hc; omega
    · have hb : Try.prog.bytesOf 27 = 16 := by kernel_rfl
      have hle := r1_0.le
      have hsp : elems.length + sp.length = c1_0 := by rw [hl, hs (fun _ => rfl)]; omega
      have := sized_slice hsf1 (j := 0) (t := 22) (e := 27) (elems := elems) (spare := sp) rfl (by rw [List.getElem?_map, yz1_0]; exact congrArg some hd) Try.underlying22
      rw [hb, hsp] at this
      simpa [reachBytes] using this
  obtain ⟨v1_1, z1_1, m1_1, c_1_1, yz1_1, t1_1⟩ := hfl1 1 _ rfl
  obtain ⟨a1_1, n1_1, c1_1, rfl, ⟨x1_1, r1_1, o1_1⟩, g1_1⟩ := open_rows_v (cells := (fun z => [.int .i64 z])) (ok := (fun z => (Lit.int .i64 z).wf = true)) (k := 1) Try.underlying23 (by kernel_rfl) (by decide) (el_int Try.underlying3) t1_1
  have s1_1 : c1_1 * 8 ≤ 140737488351232 := by
    rcases g1_1 with ⟨_, _, hc, _⟩ | ⟨elems, sp, hd, hl, hs⟩
    · subst hc; omega
    · have hb : Try.prog.bytesOf 3 = 8 := by kernel_rfl
      have hle := r1_1.le
      have hsp : elems.length + sp.length = c1_1 := by rw [hl, hs (fun _ => rfl)]; omega
      have := sized_slice hsf1 (j := 1) (t := 23) (e := 3) (elems := elems) (spare := sp) rfl (by rw [List.getElem?_map, yz1_1]; exact congrArg some hd) Try.underlying23
      rw [hb, hsp] at this
      simpa [reachBytes] using this
  obtain rfl := list2 hl1 c_1_0 c_1_1
  refine (walk a0_0 n0_0 c0_0 x0_0 a0_1 n0_1 c0_1 x0_1 a1_0 n1_0 c1_0 x1_0 a1_1 n1_1 c1_1 x1_1 W r0_0 o0_0 s0_0 r0_1 o0_1 s0_1 r1_0 o1_0 s1_0 r1_1 o1_1 s1_1).mono fun e W' ⟨he, bel⟩ => ?_
  subst he
  exact ⟨_, rfl, _, _, _, [], _, [], hW', trodAll_mk1 (shut_bool Try.underlying4 _), (trodAll_cons_mk (Below.trod laidOut (by kernel_rfl) (of_decide_eq_true (by kernel_rfl)) k0 bel lt0) (trodAll_cons_mk (Below.trod laidOut (by kernel_rfl) (of_decide_eq_true (by kernel_rfl)) k1 bel lt1) trodAll_mk0)), rfl, bel.frame _, fun h => by cases h⟩

theorem over : Rows.useCountsRow.holds Try.pinned (OpenSpec.ofChange Rows.useCountsSpec) :=
  OpenClaim.holds_of_wide 10 Try.f10 rfl rfl rfl rfl rfl rfl rfl ⟨rfl, rfl, rfl, rfl, rfl⟩ rfl rfl rfl rfl rfl (by kernel_rfl) Try.func10 (by kernel_rfl)
    (of_decide_eq_true (by kernel_rfl)) (by unfold Func.isWrapper; first | (rw [if_pos (by decide +kernel)]; kernel_rfl) | (rw [if_neg (by decide +kernel)]; exact ⟨rfl, rfl⟩))
    (fun os started H enc _ => lifted os started H enc)

theorem proved : Rows.UseCountsSaid := over
end Go.Proofs.Ytjmgocfoimhmjaa.lUseCounts
