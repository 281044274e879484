/- use.Count, walked. -/
import Derived.Test.YtjmgocfoimhmjaaUcJb
import Derived.Test.YtjmgocfoimhmjaaUiW
import Derived.Test.YtjmgocfoimhmjaaImapW
import Derived.Test.YtjmgocfoimhmjaaUcJa
import Derived.Test.YtjmgocfoimhmjaaDiskW
import Derived.Deep.DeepCutAuto
/- use.Part, walked. -/
namespace Go.Proofs.Ytjmgocfoimhmjaa
open Go.RowKit

def PtPost (cs : List ByteArray) (ws : List PutD) (n k : Int) (q : PlaceD) (w : World) (e : Ending) (w' : World) : Prop :=
  (ptOk cs ws n k q ∧ e = .returned (.tuple #[.string (ubB cs ws q.Cell q.Nth).Text, .int .i64 0]) ∧ Below w.heap.size w w') ∨
  (¬ ptOk cs ws n k q ∧ e = .returned (.tuple #[.string ⟨#[]⟩, .int .i64 18]) ∧ Below w.heap.size w w')

set_option maxRecDepth 20000 in
set_option maxHeartbeats 2000000 in
theorem usep_any (A : Option Addr) (n c : Nat) (cs : List ByteArray) (A' : Option Addr) (n' c' : Nat) (ws : List PutD) (ni k pc pn : Int) (w : World) (r : RowsIn w w.heap.size A n c (fun z => [.string z]) 1 cs) (r' : RowsIn w w.heap.size A' n' c' PutD.cells 2 ws) (hws : ws.length ≤ 400) :
    Calls Try.prog 77 #[.agg #[.slice A n c, .slice A' n' c'], .int .i64 ni, .int .i64 k, .agg #[.int .i64 pc, .int .i64 pn]] w (PtPost cs ws ni k ⟨pc, pn⟩ w) := by
  obtain ⟨wa, hwa⟩ : ∃ wa, wa = (w.alloc (.cells #[.slice A n c, .slice A' n' c'] 41)).alloc (.cells #[.int .i64 pc, .int .i64 pn] 27) := ⟨_, rfl⟩
  have hba : Below w.heap.size w wa := by rw [hwa]; exact ((Below.refl _ _).alloc (Nat.le_refl _) _).alloc (by simp) _
  have hrp : wa.heap[w.heap.size + 1]? = some (.cells #[.int .i64 pc, .int .i64 pn] 27 (0, 0)) := by
    rw [hwa]
    have := heap_alloc_new (w.alloc (.cells #[.slice A n c, .slice A' n' c'] 41)) (.cells #[.int .i64 pc, .int .i64 pn] 27)
    rw [show (w.alloc (.cells #[.slice A n c, .slice A' n' c'] 41)).heap.size = w.heap.size + 1 by simp] at this
    exact this
  have hrb : wa.heap[w.heap.size]? = some (.cells #[.slice A n c, .slice A' n' c'] 41 (0, 0)) := by
    rw [hwa]; exact (heap_alloc_old _ _ (by simp)).trans (heap_alloc_new w _)
  have v0 : wa.cell? ⟨w.heap.size, 0, none⟩ = some (.slice A n c) := row_cell hrb 0
  have v1 : wa.cell? ⟨w.heap.size, 1, none⟩ = some (.slice A' n' c') := row_cell hrb 1
  have v2 : wa.cell? ⟨w.heap.size + 1, 0, none⟩ = some (.int .i64 pc) := row_cell hrp 0
  have v3 : wa.cell? ⟨w.heap.size + 1, 1, none⟩ = some (.int .i64 pn) := row_cell hrp 1
  have HUB := Lib.hid (useb_any A n c cs A' n' c' ws pc pn wa ((r.below hba).more hba.size) ((r'.below hba).more hba.size) hws)
  unfold UbPost at HUB
  have HNO : Hid (¬ (ubE cs ws pc pn = 0 ∧ (ubB cs ws pc pn).Kind = 1 ∧ (ubB cs ws pc pn).Ino = ni ∧ (ubB cs ws pc pn).Nth = k) → ∀ w', Below w.heap.size w w' → PtPost cs ws ni k ⟨pc, pn⟩ w (.returned (.tuple #[.string ⟨#[]⟩, .int .i64 18])) w') := fun h w' hb => .inr ⟨h, rfl, hb⟩
  have HYES : Hid ((ubE cs ws pc pn = 0 ∧ (ubB cs ws pc pn).Kind = 1 ∧ (ubB cs ws pc pn).Ino = ni ∧ (ubB cs ws pc pn).Nth = k) → ∀ w', Below w.heap.size w w' → PtPost cs ws ni k ⟨pc, pn⟩ w (.returned (.tuple #[.string (ubB cs ws pc pn).Text, .int .i64 0])) w') := fun h w' hb => .inl ⟨h, rfl, hb⟩
  have HWA := Lib.hid hwa
  have HBA := Lib.hid hba
  clear r r' hwa hba hrb hrp hws
  generalize ubE cs ws pc pn = E at *
  generalize ubB cs ws pc pn = B at *
  obtain ⟨bk, bi, bn, bt⟩ := B
  simp only at HUB HNO HYES
  by_cases hE : E = 0
  · subst hE
    by_cases h1 : bk = 1
    · subst h1
      by_cases h2 : bi = ni
      · subst h2
        by_cases h3 : bn = k
        · subst h3
          have HY := Lib.hid (HYES.out (by simp))
          go_enter Try.func77, Try.ntmps77
          go_wp2_with (go_at_call 74; rw [← HWA.out]; refine HUB.out.mono ?_; rintro e w1 ⟨rfl, hb1⟩; have hm := heap_alloc_new w1 (.cells #[.int .i64 1, .int .i64 bi, .int .i64 bn, .string bt] 71); have u3 : (w1.alloc (.cells #[.int .i64 1, .int .i64 bi, .int .i64 bn, .string bt] 71)).cell? ⟨w1.heap.size, 3, none⟩ = some (.string bt) := row_cell hm 3; clear hm)
          go_ret2
          exact HY.out _ ((HBA.out.trans (hb1.mono HBA.out.size)).alloc (HBA.out.trans (hb1.mono HBA.out.size)).size _)
        · have g1 : (bn != k) = true := bne_iff_ne.2 h3
          have HN := Lib.hid (HNO.out (fun h => h3 h.2.2.2))
          clear h3
          go_enter Try.func77, Try.ntmps77
          go_wp2_with (go_at_call 74; rw [← HWA.out]; refine HUB.out.mono ?_; rintro e w1 ⟨rfl, hb1⟩)
          go_ret2
          exact HN.out _ ((HBA.out.trans (hb1.mono HBA.out.size)).alloc (HBA.out.trans (hb1.mono HBA.out.size)).size _)
      · have g1 : (bi != ni) = true := bne_iff_ne.2 h2
        have HN := Lib.hid (HNO.out (fun h => h2 h.2.2.1))
        clear h2
        go_enter Try.func77, Try.ntmps77
        go_wp2_with (go_at_call 74; rw [← HWA.out]; refine HUB.out.mono ?_; rintro e w1 ⟨rfl, hb1⟩)
        go_ret2
        exact HN.out _ ((HBA.out.trans (hb1.mono HBA.out.size)).alloc (HBA.out.trans (hb1.mono HBA.out.size)).size _)
    · have g1 : (bk != 1) = true := bne_iff_ne.2 h1
      have HN := Lib.hid (HNO.out (fun h => h1 h.2.1))
      clear h1
      go_enter Try.func77, Try.ntmps77
      go_wp2_with (go_at_call 74; rw [← HWA.out]; refine HUB.out.mono ?_; rintro e w1 ⟨rfl, hb1⟩)
      go_ret2
      exact HN.out _ ((HBA.out.trans (hb1.mono HBA.out.size)).alloc (HBA.out.trans (hb1.mono HBA.out.size)).size _)
  · have g1 : (E != 0) = true := bne_iff_ne.2 hE
    have HN := Lib.hid (HNO.out (fun h => hE h.1))
    clear hE
    go_enter Try.func77, Try.ntmps77
    go_wp2_with (go_at_call 74; rw [← HWA.out]; refine HUB.out.mono ?_; rintro e w1 ⟨rfl, hb1⟩)
    go_ret2
    exact HN.out _ ((HBA.out.trans (hb1.mono HBA.out.size)).alloc (HBA.out.trans (hb1.mono HBA.out.size)).size _)
end Go.Proofs.Ytjmgocfoimhmjaa

namespace Go.Proofs.Ytjmgocfoimhmjaa
open Go.RowKit

theorem own_hereC {W : World} {base size n c b o j : Nat} {xs : List Value} {u : Value} (h : Owns W base size (.slice (some ⟨b, o, none⟩) n c) n xs) (hu : xs[j]? = some u) : W.cell? ⟨b, o + j, none⟩ = some u ∧ W.frozen? ⟨b, o + j, none⟩ = false := by
  obtain ⟨_, _, _, e1, _, _, c1, f1⟩ := h.at_ hu
  injection e1 with e1 _ _; injection e1 with e1; injection e1 with e1 e2 _
  subst e1; subst e2
  exact ⟨c1, f1⟩
theorem info_intC : (Try.prog.info? 3).map (fun i => (i.zero, i.size, i.bytes)) = some (some (.int .i64 0), 1, 8) := by kernel_rfl
theorem mk_zeros (N : Nat) (hN : N ≤ 128) : ∀ W : World, (Instr.makeSlice 23 (.int .i64 (N : Int)) (.int .i64 (N : Int))).run Try.prog W = .ok (.slice (some ⟨W.heap.size, 0, none⟩) N N) (W.alloc (.cells (Array.replicate N (.int .i64 0)) 3)) := fun W => by
  obtain ⟨i, hi, hzz⟩ := Option.map_eq_some_iff.1 info_intC
  simp only [Prod.mk.injEq] at hzz
  obtain ⟨hz, hs, hbb⟩ := hzz
  have := run_make (P := Try.prog) W 23 3 i (.int .i64 0) Try.underlying23 hi hz .i64 .i64 N N (by omega) (by omega) (by rw [hbb]; omega) (by omega)
  rw [hs] at this
  rw [this, Int.toNat_natCast]
  have e : madeCells (Value.int .i64 0).cells (N * 1) = Array.replicate N (.int .i64 0) := by
    apply Array.ext'
    rw [Nat.mul_one, Array.toList_replicate]
    exact toList_madeCells_one _ _
  rw [e]
theorem own_zeros {W : World} {N B : Nat} (hN : N ≤ 128) (hB : B ≤ W.heap.size) (t : TypeId) : Owns (W.alloc (.cells (Array.replicate N (.int .i64 0)) t)) B 1 (.slice (some ⟨W.heap.size, 0, none⟩) N N) N ((List.replicate N (0 : Int)).map (Value.int .i64)) := by
  have hr := heap_alloc_new W (.cells (Array.replicate N (.int .i64 0)) t)
  refine ⟨by simp, .inr ⟨W.heap.size, 0, N, rfl, hB, by simp, Nat.le_refl _, by unfold maxLen; omega, fun j u hu => ?_, fun j hj => ⟨?_, ?_⟩⟩⟩
  · rw [Nat.zero_add, row_cell hr]
    rw [List.map_replicate] at hu
    have hj : j < N := by have := (List.getElem?_eq_some_iff.1 hu).1; simpa using this
    rw [List.getElem?_replicate, if_pos hj] at hu
    rw [Array.getElem?_replicate, if_pos hj]; exact hu
  · rw [Nat.zero_add, row_cell hr, Array.getElem?_replicate, if_pos (by omega)]; rfl
  · rw [Nat.zero_add]; exact row_cold hr j
def UcPost (cs : List ByteArray) (ws : List PutD) (xs : List PlaceD) (gs : List Int) (w : World) (e : Ending) (w' : World) : Prop := ∃ D q d, e = .returned (.tuple #[.slice D q d, .int .i64 (ucE cs ws xs gs)]) ∧ RowsIn w' w'.heap.size D q d (fun z => [.int .i64 z]) 1 (ucL cs ws xs gs) ∧ Below w.heap.size w w'
theorem ucPost_bad {cs : List ByteArray} {ws : List PutD} {xs : List PlaceD} {gs : List Int} {w w' : World} {k : Int} (h : ucE cs ws xs gs = k) (h0 : k ≠ 0) (hb : Below w.heap.size w w') : UcPost cs ws xs gs w (.returned (.tuple #[.slice none 0 0, .int .i64 k])) w' :=
  ⟨none, 0, 0, by rw [h], by rw [uc_bad h h0]; exact no_intsI _ _, hb⟩
structure UcI (cs : List ByteArray) (ws : List PutD) (xs : List PlaceD) (gs : List Int) (b : Nat) (wa : World) (i : Nat) (wr : World) : Prop where
  good : alGood cs ws xs gs i
  own : Owns wr wa.heap.size 1 (.slice (some ⟨b, 0, none⟩) cs.length cs.length) cs.length ((cnt cs ws (alL cs ws xs i)).map (Value.int .i64))
  below : Below wa.heap.size wa wr
structure UcJ (cs : List ByteArray) (ws : List PutD) (xs : List PlaceD) (b : Nat) (wa : World) (i j : Nat) (p : PlaceD) (D : Option Addr) (q d : Nat) (wr : World) : Prop where
  ok : okTo cs ws i (pts cs ws p) j
  own : Owns wr wa.heap.size 1 (.slice (some ⟨b, 0, none⟩) cs.length cs.length) cs.length ((cnt cs ws (alL cs ws xs i ++ (p :: ptL (pts cs ws p) j))).map (Value.int .i64))
  rows : RowsIn wr wr.heap.size D q d PlaceD.cells 2 (pts cs ws p)
  below : Below wa.heap.size wa wr
  far : ∀ b' o, D = some ⟨b', o, none⟩ → 0 < q → b' ≠ b
theorem cnt_at {cs : List ByteArray} {ws : List PutD} {l : List PlaceD} {pk : Nat} (hd : dskE cs ws = 0) (hpk : pk < cs.length) (hl : l.length ≤ 900) : ∃ v : Int, (cnt cs ws l)[pk]? = some v ∧ 0 ≤ v ∧ v ≤ 921600 := by
  have e := List.getElem?_eq_getElem (l := cnt cs ws l) (i := pk) (by rw [cnt_len]; exact hpk)
  obtain ⟨h0, h1⟩ := cnt_bd (fun p => ubB_size hd _ _) l pk _ e
  exact ⟨_, e, h0, by omega⟩
theorem cnt_add {cs : List ByteArray} {ws : List PutD} {l : List PlaceD} {pk : Nat} {pn v : Int} (h : (cnt cs ws l)[pk]? = some v) : (cnt cs ws (l ++ [⟨(pk : Int), pn⟩])).map (Value.int .i64) = ((cnt cs ws l).map (Value.int .i64)).set pk (.int .i64 (v + ((ubB cs ws pk pn).Text.size : Int))) := by
  rw [cnt_snoc]
  simp only [Int.toNat_natCast]
  rw [List.getD_eq_getElem?_getD, h, List.map_set]; rfl

set_option maxRecDepth 20000 in
set_option maxHeartbeats 4000000 in
theorem usec_any (A : Option Addr) (n c : Nat) (cs : List ByteArray) (A' : Option Addr) (n' c' : Nat) (ws : List PutD) (Am : Option Addr) (nm cm : Nat) (xs : List PlaceD) (Ag : Option Addr) (ng cg : Nat) (gs : List Int) (w : World) (r : RowsIn w w.heap.size A n c (fun z => [.string z]) 1 cs) (r' : RowsIn w w.heap.size A' n' c' PutD.cells 2 ws) (rm : RowsIn w w.heap.size Am nm cm PlaceD.cells 2 xs) (rg : RowsIn w w.heap.size Ag ng cg (fun z => [.int .i64 z]) 1 gs) :
    Calls Try.prog 42 #[.agg #[.slice A n c, .slice A' n' c'], .agg #[.slice Am nm cm, .slice Ag ng cg]] w (UcPost cs ws xs gs w) := by
  have hlen := r.len
  subst hlen
  have hlen' := r'.len
  subst hlen'
  have hlenm := rm.len
  subst hlenm
  have hleng := rg.len
  subst hleng
  obtain ⟨wa, hwa⟩ : ∃ wa, wa = (w.alloc (.cells #[.slice A cs.length c, .slice A' ws.length c'] 41)).alloc (.cells #[.slice Am xs.length cm, .slice Ag gs.length cg] 25) := ⟨_, rfl⟩
  have hza : wa.heap.size = w.heap.size + 2 := by rw [hwa]; simp
  have hba : Below w.heap.size w wa := by rw [hwa]; exact ((Below.refl _ _).alloc (Nat.le_refl _) _).alloc (by simp) _
  have hrm : wa.heap[w.heap.size + 1]? = some (.cells #[.slice Am xs.length cm, .slice Ag gs.length cg] 25 (0, 0)) := by
    rw [hwa]
    have := heap_alloc_new (w.alloc (.cells #[.slice A cs.length c, .slice A' ws.length c'] 41)) (.cells #[.slice Am xs.length cm, .slice Ag gs.length cg] 25)
    rw [show (w.alloc (.cells #[.slice A cs.length c, .slice A' ws.length c'] 41)).heap.size = w.heap.size + 1 by simp] at this
    exact this
  have hrb : wa.heap[w.heap.size]? = some (.cells #[.slice A cs.length c, .slice A' ws.length c'] 41 (0, 0)) := by
    rw [hwa]; exact (heap_alloc_old _ _ (by simp)).trans (heap_alloc_new w _)
  have hle := hba.size
  have RA := Lib.hid ((r.below hba).more hle)
  have RA' := Lib.hid ((r'.below hba).more hle)
  have RM := Lib.hid ((rm.below hba).more hle)
  have RG := Lib.hid ((rg.below hba).more hle)
  have HC : Hid (∀ W, Below wa.heap.size wa W → W.cell? ⟨w.heap.size, 0, none⟩ = some (.slice A cs.length c) ∧ W.cell? ⟨w.heap.size, 1, none⟩ = some (.slice A' ws.length c') ∧ W.cell? ⟨w.heap.size + 1, 0, none⟩ = some (.slice Am xs.length cm) ∧ W.cell? ⟨w.heap.size + 1, 1, none⟩ = some (.slice Ag gs.length cg) ∧ w.heap.size < W.heap.size ∧ w.heap.size + 1 < W.heap.size) := fun W h => by
    have q0 := row_below hrb (row_lt hrb) h
    have q1 := row_below hrm (row_lt hrm) h
    exact ⟨row_cell q0 0, row_cell q0 1, row_cell q1 0, row_cell q1 1, row_lt q0, row_lt q1⟩
  have HCK := Lib.hid (dchk_any A _ c cs A' _ c' ws wa RA.out RA'.out)
  have HIM : Hid (∀ W, Below wa.heap.size wa W → Calls Try.prog 56 #[.agg #[.slice Am xs.length cm, .slice Ag gs.length cg]] W fun e w' => e = .returned (.int .i64 (impE xs gs)) ∧ Below W.heap.size W w') := fun W h => imapc_any Am _ cm xs Ag _ cg gs W ((RM.out.below h).more h.size) ((RG.out.below h).more h.size)
  have HWA := Lib.hid hwa
  have HBA := Lib.hid hba
  clear r r' rm rg hwa hba hrb hrm hle hza
  by_cases hd : dskE cs ws = 0
  · have HD := Lib.hid hd
    rw [hd] at HCK
    by_cases hi : impE xs gs = 0
    · have HIE := Lib.hid hi
      rw [hi] at HIM
      obtain ⟨z1, z2, _, _, z3⟩ := dsk_zero hd
      have hok : ImapOk xs gs := by
        by_cases hk : ImapOk xs gs
        · exact hk
        · rw [impE_no hk] at hi; cases hi
      have HX := Lib.hid hok
      have hx48 : xs.length ≤ 48 := by rw [hok.1]; omega
      have hx48' : 48 ≤ xs.length := by rw [hok.1]; omega
      have Z2 := Lib.hid z2
      have Z3 := Lib.hid z3
      have hmk := mk_zeros cs.length z2
      clear hd hi z1 z2 z3 hok
      go_enter Try.func42, Try.ntmps42
      go_wp2_with (first
        | (go_at_call 60; rw [← HWA.out]; refine HCK.out.mono ?_; rintro e w1 ⟨rfl, hb1⟩; obtain ⟨v0, v1, v2, v3, v4, v5⟩ := HC.out w1 hb1; have HB1 := Lib.hid hb1; clear hb1)
        | (go_at_call 56; refine (HIM.out _ HB1.out).mono ?_; rintro e w2 ⟨rfl, hb2⟩; have HB2 := Lib.hid (HB1.out.trans (hb2.mono HB1.out.size)); obtain ⟨u0, u1, u2, u3, u4, u5⟩ := HC.out w2 HB2.out; clear hb2))
      have I0 : Hid (UcI cs ws xs gs w2.heap.size wa 0 (w2.alloc (.cells (Array.replicate cs.length (.int .i64 0)) 3))) :=
        { good := alGood_zero, own := own_zeros Z2.out HB2.out.size _, below := HB2.out.alloc HB2.out.size _ }
      have HLO : Hid (wa.heap.size ≤ w2.heap.size) := HB2.out.size
      clear v0 v1 v2 v3 v4 v5 u0 u1 u2 u3 u4 u5 hmk HCK HIM
      go_loopw [35] (fun v35 wr => ∃ i : Nat, i ≤ xs.length ∧ v35 = .int .i64 i ∧ Hid (UcI cs ws xs gs w2.heap.size wa i wr)) (fun v35 _ => xs.length - (intOf v35).toNat)
      case atStart => exact ⟨0, Nat.zero_le _, rfl, I0.out⟩
      case round =>
        obtain ⟨i, hi, rfl, hP⟩ := hrel
        obtain ⟨w4, rfl⟩ : ∃ z : World, z = wr := ⟨_, rfl⟩
        clear I0
        by_cases hlt : i < xs.length
        · have e1 := List.getElem?_eq_getElem hlt
          have hgl : i < gs.length := by have h1 := HX.out.1; have h2 := HX.out.2.1; omega
          have e2 := List.getElem?_eq_getElem hgl
          generalize hpx : xs[i] = p at e1
          generalize hgx : gs[i] = g at e2
          obtain ⟨pc, pn⟩ := p
          have E1 := Lib.hid e1
          have E2 := Lib.hid e2
          have HRT : Hid (rightB pc pn = true) := by
            obtain ⟨p', g', h1, _, h3, _⟩ := HX.out.2.2 i (by have := HX.out.1; omega)
            rw [e1] at h1; injection h1 with h1; subst h1; exact h3
          obtain ⟨bm, om, hAm, hbm, hcm⟩ := (RM.out.below hP.out.below).at_ i _ e1
          have c0 : w4.cell? ⟨bm, om + i * 2, none⟩ = some (.int .i64 pc) := by simpa using hcm 0 _ rfl
          have c1 : w4.cell? ⟨bm, om + i * 2 + 1, none⟩ = some (.int .i64 pn) := hcm 1 _ rfl
          have i1 : (i : Int) < (xs.length : Int) := by omega
          subst hAm
          have HLEN := Lib.hid (alL_len (cs := cs) (ws := ws) (xs := xs) i)
          have hi48 : i ≤ 47 := by omega
          obtain ⟨wo, hwo⟩ : ∃ z : World, z = w4.alloc (.cells #[.int .i64 pc, .int .i64 pn] 27) := ⟨_, rfl⟩
          have hro := heap_alloc_new w4 (.cells #[.int .i64 pc, .int .i64 pn] 27)
          rw [← hwo] at hro
          have hqo : Below w4.heap.size w4 wo := by rw [hwo]; exact (Below.refl _ _).alloc (Nat.le_refl _) _
          have HWO := Lib.hid hwo
          have HRO := Lib.hid hro
          have HBO := Lib.hid (hP.out.below.trans (hqo.mono hP.out.below.size))
          have HOO := Lib.hid (show Owns wo wa.heap.size 1 (.slice (some ⟨w2.heap.size, 0, none⟩) cs.length cs.length) cs.length ((cnt cs ws (alL cs ws xs i)).map (Value.int .i64)) by rw [hwo]; exact hP.out.own.alloc _)
          have o0 : wo.cell? ⟨w4.heap.size, 0, none⟩ = some (.int .i64 pc) := row_cell hro 0
          clear e1 e2 hpx hgx hcm hwo hro hqo hi hlt hgl
          go_upto_region 11 with fail
          rw [← HWO.out]
          obtain ⟨v0, v1, v2, v3, v4, v5⟩ := HC.out wo HBO.out
          by_cases hp0 : pc = 0
          · subst hp0
            have I1 : Hid (UcI cs ws xs gs w2.heap.size wa (i + 1) wo) := { good := alGood_succ hP.out.good E1.out E2.out (.inl rfl), own := by rw [alL_succ E1.out, inL_skip rfl, List.append_nil]; exact HOO.out, below := HBO.out }
            go_wp2_with fail
            go_roundw
            case rel => exact ⟨i + 1, by omega, by go_num, I1.out⟩
            case measure => (simp [intOf]; try omega)
          · have g0 : (pc == 0) = false := beq_eq_false_iff_ne.2 hp0
            have HP0 := Lib.hid hp0
            have HUI := Lib.hid (usei_any A _ c cs A' _ c' ws (some ⟨bm, om, none⟩) _ cm xs Ag _ cg gs i pc pn g wo ((RA.out.below HBO.out).more HBO.out.size) ((RA'.out.below HBO.out).more HBO.out.size) ((RM.out.below HBO.out).more HBO.out.size) ((RG.out.below HBO.out).more HBO.out.size) HD.out E1.out E2.out)
            by_cases hok : inOk cs ws i ⟨pc, pn⟩ g
            · have HOK := Lib.hid hok
              obtain ⟨q2, qN, qn⟩ := ubE_zero hok.1
              simp only at q2 qN qn
              obtain ⟨pk, rfl⟩ : ∃ pk : Nat, pc = pk := ⟨pc.toNat, by omega⟩
              obtain ⟨v, hv, hv0, hv1⟩ := cnt_at (l := alL cs ws xs i) HD.out (show pk < cs.length by omega) (by have := HLEN.out; omega)
              have HV := Lib.hid hv
              obtain ⟨k0, k1⟩ := own_hereC HOO.out (j := pk) (u := .int .i64 v) (by rw [List.getElem?_map, hv]; rfl)
              rw [Nat.zero_add] at k0 k1
              have hsz : ((ubB cs ws pk pn).Text.size : Int) ≤ 1024 := by have := ubB_size HD.out pk pn; omega
              have hsz0 : 0 ≤ ((ubB cs ws pk pn).Text.size : Int) := by omega
              have HADD := Lib.hid (cnt_add (pn := pn) hv)
              have HPL : Hid ((pts cs ws ⟨pk, pn⟩).length ≤ 8) := irP_len _
              have HUY : Hid (Calls Try.prog 76 #[.agg #[.slice A cs.length c, .slice A' ws.length c'], .agg #[.slice (some ⟨bm, om, none⟩) xs.length cm, .slice Ag gs.length cg], .int .i64 i] wo fun e w' => ∃ (K G S : Int) (D : Option Addr) (q d : Nat), e = .returned (.tuple #[.agg #[.int .i64 K, .int .i64 G, .int .i64 S, .slice D q d], .string (ubB cs ws pk pn).Text, .int .i64 0]) ∧ RowsIn w' w'.heap.size D q d PlaceD.cells 2 (pts cs ws ⟨pk, pn⟩) ∧ Below wo.heap.size wo w' ∧ (∀ a, D = some a → wo.heap.size ≤ a.block)) := HUI.out.mono fun e w' h => by
                rcases h with ⟨_, h⟩ | ⟨h, _⟩
                · exact h
                · exact absurd hok h
              have hb2o : w2.heap.size < wo.heap.size := (HOO.out.lt _ rfl).2
              have HB2O := Lib.hid hb2o
              have i3 : (pk : Int) < (cs.length : Int) := by omega
              clear hok q2 qN qn hv HUI hp0 hb2o
              generalize hT : (ubB cs ws pk pn).Text = T at *
              have HT := Lib.hid hT
              clear hT
              go_wp2_with (go_at_call 76; refine HUY.out.mono ?_; rintro e w5 ⟨K, G, S, D, q, d, rfl, r5, hb5, hf5⟩; have hrr := row_below HRO.out (row_lt HRO.out) hb5; have s0 : w5.cell? ⟨w4.heap.size, 0, none⟩ = some (.int .i64 (pk : Int)) := row_cell hrr 0; have s9 := row_lt hrr; have hk0 := (hb5.cell (p := ⟨w2.heap.size, pk, none⟩) HB2O.out).trans k0; have hk1 := (hb5.frozen (p := ⟨w2.heap.size, pk, none⟩) HB2O.out).trans k1; have hlt5 := Nat.lt_of_lt_of_le HB2O.out hb5.size; have R5 := Lib.hid r5; have HB5 := Lib.hid hb5; have HF5 := Lib.hid hf5; have HRR := Lib.hid hrr; clear hb5 r5 hf5 hrr)
              have HFAR : Hid (∀ b' o, D = some ⟨b', o, none⟩ → 0 < q → b' ≠ w2.heap.size) := fun b' o e _ e2 => by have h1 := HF5.out _ e; have h2 := HB2O.out; simp only at h1; omega
              have HBO5 := Lib.hid (HBO.out.trans (HB5.out.mono HBO.out.size))
              have J0 : Hid (UcJ cs ws xs w2.heap.size wa i 0 ⟨pk, pn⟩ D q d ((w5.setCell ⟨w2.heap.size, pk, none⟩ (.int .i64 (v + (T.size : Int)))).alloc (.cells #[.int .i64 K, .int .i64 G, .int .i64 S, .slice D q d] 116))) :=
                { ok := fun j' q' h => by omega
                  own := by
                    have e : (⟨(pk : Int), pn⟩ : PlaceD) :: ptL (pts cs ws ⟨pk, pn⟩) 0 = [⟨(pk : Int), pn⟩] := by simp [ptL]
                    rw [e, HADD.out]
                    have := (HOO.out.fresh_below HB5.out).set pk (.int .i64 (v + (T.size : Int)))
                    rw [Nat.zero_add] at this
                    exact this.alloc _
                  rows := carry_new ((aside_cellU R5.out HFAR.out (.int .i64 (v + (T.size : Int)))).more (by simp [World.setCell])) _
                  below := (HBO5.out.setCell HLO.out _).alloc (by have := HBO5.out.size; simp [World.setCell]; omega) _
                  far := HFAR.out }
              clear k0 k1 hk0 hk1 hlt5 s0 s9 HUY hv0 hv1 hsz hsz0 v0 v1 v2 v3 v4 v5 o0 c0 c1
              have HQ := R5.out.len
              subst HQ
              go_loopw [66] (fun v66 wr => ∃ j : Nat, j ≤ (pts cs ws ⟨pk, pn⟩).length ∧ v66 = .int .i64 j ∧ Hid (UcJ cs ws xs w2.heap.size wa i j ⟨pk, pn⟩ D (pts cs ws ⟨pk, pn⟩).length d wr)) (fun v66 _ => (pts cs ws ⟨pk, pn⟩).length - (intOf v66).toNat)
              case atStart => exact ⟨0, Nat.zero_le _, rfl, J0.out⟩
              case round =>
                obtain ⟨j, hj, rfl, hJ⟩ := hrel
                obtain ⟨w7, rfl⟩ : ∃ z : World, z = wr := ⟨_, rfl⟩
                clear J0
                by_cases hjl : j < (pts cs ws ⟨pk, pn⟩).length
                · have e3 := List.getElem?_eq_getElem hjl
                  generalize hqx : (pts cs ws ⟨pk, pn⟩)[j] = qp at e3
                  obtain ⟨qc, qn⟩ := qp
                  have E3 := Lib.hid e3
                  obtain ⟨bd, od, hD, hbd, hcd⟩ := hJ.out.rows.at_ j _ e3
                  have c0 : w7.cell? ⟨bd, od + j * 2, none⟩ = some (.int .i64 qc) := by simpa using hcd 0 _ rfl
                  have c1 : w7.cell? ⟨bd, od + j * 2 + 1, none⟩ = some (.int .i64 qn) := hcd 1 _ rfl
                  have i5 : (j : Int) < ((pts cs ws ⟨pk, pn⟩).length : Int) := by omega
                  subst hD
                  obtain ⟨wp, hwp⟩ : ∃ z : World, z = w7.alloc (.cells #[.int .i64 qc, .int .i64 qn] 27) := ⟨_, rfl⟩
                  have hrp := heap_alloc_new w7 (.cells #[.int .i64 qc, .int .i64 qn] 27)
                  rw [← hwp] at hrp
                  have hqp : Below w7.heap.size w7 wp := by rw [hwp]; exact (Below.refl _ _).alloc (Nat.le_refl _) _
                  have HWP := Lib.hid hwp
                  have HRP := Lib.hid hrp
                  have HBP := Lib.hid (hJ.out.below.trans (hqp.mono hJ.out.below.size))
                  have HOP := Lib.hid (hJ.out.own.fresh_below hqp)
                  have HRW := Lib.hid ((hJ.out.rows.below hqp).more hqp.size)
                  have o0 : wp.cell? ⟨w7.heap.size, 0, none⟩ = some (.int .i64 qc) := row_cell hrp 0
                  have o1 : wp.cell? ⟨w7.heap.size, 1, none⟩ = some (.int .i64 qn) := row_cell hrp 1
                  clear e3 hqx hcd hwp hrp hqp hj
                  have hj8 : j < 8 := by have := HPL.out; omega
                  go_upto_region 19 with fail
                  rw [← HWP.out]
                  obtain ⟨v0, v1, v2, v3, v4, v5⟩ := HC.out wp HBP.out
                  by_cases hq0 : qc = 0
                  · subst hq0
                    have J1 : Hid (UcJ cs ws xs w2.heap.size wa i (j + 1) ⟨pk, pn⟩ (some ⟨bd, od, none⟩) (pts cs ws ⟨pk, pn⟩).length d wp) := { ok := okTo_succ hJ.out.ok E3.out (.inl rfl), own := by rw [ptL_skip E3.out rfl]; exact HOP.out, rows := HRW.out, below := HBP.out, far := hJ.out.far }
                    go_wp2_with fail
                    go_roundw
                    case rel => exact ⟨j + 1, by omega, by go_num, J1.out⟩
                    case measure => (simp [intOf]; try omega)
                  · have g5 : (qc == 0) = false := beq_eq_false_iff_ne.2 hq0
                    have HUP := Lib.hid (usep_any A _ c cs A' _ c' ws i j qc qn wp ((RA.out.below HBP.out).more HBP.out.size) ((RA'.out.below HBP.out).more HBP.out.size) Z3.out)
                    by_cases hpo : ptOk cs ws i j ⟨qc, qn⟩
                    · have HPO := Lib.hid hpo
                      obtain ⟨q2, qN, qnn⟩ := ubE_zero hpo.1
                      simp only at q2 qN qnn
                      obtain ⟨qk, rfl⟩ : ∃ qk : Nat, qc = qk := ⟨qc.toNat, by omega⟩
                      obtain ⟨v', hv', hv0', hv1'⟩ := cnt_at (l := alL cs ws xs i ++ (⟨(pk : Int), pn⟩ :: ptL (pts cs ws ⟨pk, pn⟩) j)) HD.out (show qk < cs.length by omega) (by have h1 := HLEN.out; have h2 := ptL_len (pts cs ws ⟨pk, pn⟩) j; simp only [List.length_append, List.length_cons]; omega)
                      obtain ⟨l0, l1⟩ := own_hereC HOP.out (j := qk) (u := .int .i64 v') (by rw [List.getElem?_map, hv']; rfl)
                      rw [Nat.zero_add] at l0 l1
                      have hsz' : ((ubB cs ws qk qn).Text.size : Int) ≤ 1024 := by have := ubB_size HD.out qk qn; omega
                      have hsz0' : 0 ≤ ((ubB cs ws qk qn).Text.size : Int) := by omega
                      have HADD' := Lib.hid (cnt_add (pn := qn) hv')
                      have HUPY : Hid (Calls Try.prog 77 #[.agg #[.slice A cs.length c, .slice A' ws.length c'], .int .i64 i, .int .i64 j, .agg #[.int .i64 qk, .int .i64 qn]] wp fun e w' => e = .returned (.tuple #[.string (ubB cs ws qk qn).Text, .int .i64 0]) ∧ Below wp.heap.size wp w') := HUP.out.mono fun e w' h => by
                        rcases h with ⟨_, h⟩ | ⟨h, _⟩
                        · exact h
                        · exact absurd hpo h
                      have HB2P := Lib.hid (show w2.heap.size < wp.heap.size from (HOP.out.lt _ rfl).2)
                      have i7 : (qk : Int) < (cs.length : Int) := by omega
                      have HADDL := Lib.hid (show (alL cs ws xs i ++ (⟨(pk : Int), pn⟩ :: ptL (pts cs ws ⟨pk, pn⟩) j)) ++ [(⟨(qk : Int), qn⟩ : PlaceD)] = alL cs ws xs i ++ (⟨(pk : Int), pn⟩ :: ptL (pts cs ws ⟨pk, pn⟩) (j + 1)) by rw [ptL_add E3.out hq0]; simp)
                      clear hpo q2 qN qnn hv' HUP hq0
                      generalize hT' : (ubB cs ws qk qn).Text = T' at *
                      have HT' := Lib.hid hT'
                      clear hT'
                      go_wp2_with (go_at_call 77; refine HUPY.out.mono ?_; rintro e w8 ⟨rfl, hb8⟩; have hrr := row_below HRP.out (row_lt HRP.out) hb8; have s0 : w8.cell? ⟨w7.heap.size, 0, none⟩ = some (.int .i64 (qk : Int)) := row_cell hrr 0; have hk0 := (hb8.cell (p := ⟨w2.heap.size, qk, none⟩) HB2P.out).trans l0; have hk1 := (hb8.frozen (p := ⟨w2.heap.size, qk, none⟩) HB2P.out).trans l1; have HB8 := Lib.hid hb8; clear hb8 hrr)
                      have J1 : Hid (UcJ cs ws xs w2.heap.size wa i (j + 1) ⟨pk, pn⟩ (some ⟨bd, od, none⟩) (pts cs ws ⟨pk, pn⟩).length d (w8.setCell ⟨w2.heap.size, qk, none⟩ (.int .i64 (v' + (T'.size : Int))))) :=
                        { ok := okTo_succ hJ.out.ok E3.out (.inr HPO.out)
                          own := by
                            rw [← HADDL.out, HADD'.out]
                            have := (HOP.out.fresh_below HB8.out).set qk (.int .i64 (v' + (T'.size : Int)))
                            rw [Nat.zero_add] at this
                            exact this
                          rows := (aside_cellU ((HRW.out.below HB8.out).more HB8.out.size) hJ.out.far (.int .i64 (v' + (T'.size : Int)))).more (by simp [World.setCell])
                          below := (HBP.out.trans (HB8.out.mono HBP.out.size)).setCell HLO.out _
                          far := hJ.out.far }
                      go_roundw
                      case rel => exact ⟨j + 1, by omega, by go_num, J1.out⟩
                      case measure => (simp [intOf]; try omega)
                    · have hnf := alGood_not (m := 48) (cs := cs) (ws := ws) (show i < 48 by omega) E1.out E2.out (fun h => by rcases h with h | h; exact HP0.out h; exact okTo_not E3.out hq0 hpo h.2)
                      have F := Lib.hid (uc_no HD.out HIE.out hnf)
                      have HUPN : Hid (Calls Try.prog 77 #[.agg #[.slice A cs.length c, .slice A' ws.length c'], .int .i64 i, .int .i64 j, .agg #[.int .i64 qc, .int .i64 qn]] wp fun e w' => e = .returned (.tuple #[.string ⟨#[]⟩, .int .i64 18]) ∧ Below wp.heap.size wp w') := HUP.out.mono fun e w' h => by
                        rcases h with ⟨h, _⟩ | ⟨_, h⟩
                        · exact absurd h hpo
                        · exact h
                      clear hpo hnf HUP hq0
                      go_wp2_with (go_at_call 77; refine HUPN.out.mono ?_; rintro e w8 ⟨rfl, hb8⟩; have HB8 := Lib.hid (HBP.out.trans (hb8.mono HBP.out.size)))
                      go_ret2
                      exact ucPost_bad F.out (by decide) (HBA.out.trans (HB8.out.mono HBA.out.size))
                · obtain rfl : j = (pts cs ws ⟨pk, pn⟩).length := by omega
                  have i5 : ¬ ((pts cs ws ⟨pk, pn⟩).length : Int) < ((pts cs ws ⟨pk, pn⟩).length : Int) := by omega
                  have I1 : Hid (UcI cs ws xs gs w2.heap.size wa (i + 1) w7) := { good := alGood_succ hP.out.good E1.out E2.out (.inr ⟨HOK.out, hJ.out.ok⟩), own := by rw [alL_succ E1.out, inL_add HP0.out]; exact hJ.out.own, below := hJ.out.below }
                  go_wp2_with fail
                  go_roundw
                  case rel => exact ⟨i + 1, by omega, by go_num, I1.out⟩
                  case measure => (simp [intOf]; try omega)
            · have hnf := alGood_not (m := 48) (cs := cs) (ws := ws) (show i < 48 by omega) E1.out E2.out (fun h => by rcases h with h | h; exact hp0 h; exact hok h.1)
              have F := Lib.hid (uc_no HD.out HIE.out hnf)
              have HUN : Hid (Calls Try.prog 76 #[.agg #[.slice A cs.length c, .slice A' ws.length c'], .agg #[.slice (some ⟨bm, om, none⟩) xs.length cm, .slice Ag gs.length cg], .int .i64 i] wo fun e w' => e = .returned (.tuple #[.agg zeroIno, .string ⟨#[]⟩, .int .i64 18]) ∧ Below wo.heap.size wo w') := HUI.out.mono fun e w' h => by
                rcases h with ⟨h, _⟩ | ⟨_, h⟩
                · exact absurd h hok
                · exact h
              clear hok hnf HUI hp0
              go_wp2_with (go_at_call 76; refine HUN.out.mono ?_; rintro e w5 ⟨rfl, hb5⟩; have HB5 := Lib.hid (HBO.out.trans (hb5.mono HBO.out.size)))
              go_ret2
              exact ucPost_bad F.out (by decide) (HBA.out.trans ((HB5.out.alloc HB5.out.size _).mono HBA.out.size))
        · obtain rfl : i = xs.length := by omega
          have i1 : ¬ (xs.length : Int) < (xs.length : Int) := by omega
          have hF := uc_ok HD.out HIE.out (by have := hP.out.good; rw [HX.out.1] at this; exact this)
          have F := Lib.hid hF
          clear hF
          go_wp2_with fail
          go_ret2
          refine ⟨_, _, _, by rw [F.out.1] <;> rfl, ?_, HBA.out.trans (hP.out.below.mono HBA.out.size)⟩
          rw [F.out.2, ← HX.out.1]; exact own_intsI hP.out.own
    · have F := Lib.hid (uc_imp hd hi)
      have hi0 := Lib.hid hi
      have g1 : (impE xs gs != 0) = true := bne_iff_ne.2 hi
      generalize impE xs gs = ie at *
      clear hd hi
      go_enter Try.func42, Try.ntmps42
      go_wp2_with (first
        | (go_at_call 60; rw [← HWA.out]; refine HCK.out.mono ?_; rintro e w1 ⟨rfl, hb1⟩; obtain ⟨v0, v1, v2, v3, v4, v5⟩ := HC.out w1 hb1; have HB1 := Lib.hid hb1; clear hb1)
        | (go_at_call 56; refine (HIM.out _ HB1.out).mono ?_; rintro e w2 ⟨rfl, hb2⟩; have HB2 := Lib.hid (HB1.out.trans (hb2.mono HB1.out.size)); clear hb2))
      go_ret2
      exact ucPost_bad F.out hi0.out (HBA.out.trans (HB2.out.mono HBA.out.size))
  · have F := Lib.hid (uc_dsk (xs := xs) (gs := gs) hd)
    have hd0 := Lib.hid hd
    have g1 : (dskE cs ws != 0) = true := bne_iff_ne.2 hd
    generalize dskE cs ws = de at *
    clear hd
    go_enter Try.func42, Try.ntmps42
    go_wp2_with (go_at_call 60; rw [← HWA.out]; refine HCK.out.mono ?_; rintro e w1 ⟨rfl, hb1⟩; have HB1 := Lib.hid hb1; clear hb1)
    go_ret2
    exact ucPost_bad F.out hd0.out (HBA.out.trans (HB1.out.mono HBA.out.size))
end Go.Proofs.Ytjmgocfoimhmjaa
