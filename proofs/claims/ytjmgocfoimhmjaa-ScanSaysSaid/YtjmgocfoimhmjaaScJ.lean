/- scan.Run, walked. -/
import Derived.Test.YtjmgocfoimhmjaaScP
import Derived.Test.YtjmgocfoimhmjaaScW
import Derived.Test.YtjmgocfoimhmjaaEqyBlob
import Derived.Test.YtjmgocfoimhmjaaBlk
import Derived.Maps.OwnSet
import Derived.Maps.Views
import Derived.Test.YtjmgocfoimhmjaaLnP
/- The log behind a check point: plain. -/
namespace Go.Proofs.Ytjmgocfoimhmjaa
open Go.RowKit

/-- The first place from i on, of m, with the number x. -/
def ff (g : Nat → Option Int) : Nat → Nat → Int → Option Nat
  | _, 0, _ => none
  | i, m + 1, x => if g i = some x then some i else ff g (i + 1) m x
/-- The greatest number from i on, of m places, and a. -/
def mo (g : Nat → Option Int) (a : Int) : Nat → Nat → Int
  | _, 0 => a
  | i, m + 1 => max (mo g a (i + 1) m) ((g i).getD a)
/-- The places of the numbers n, n + 1 .. -/
def chn (g : Nat → Option Int) (i m : Nat) : Nat → Int → List Nat
  | 0, _ => []
  | f + 1, n => match ff g i m n with
    | none => []
    | some j => j :: chn g i m f (n + 1)
/-- Up to the last that is a last. -/
def stp (b : Nat → Bool) (l : List Nat) : List Nat := (l.reverse.dropWhile (fun j => !b j)).reverse

section
variable {g : Nat → Option Int} {a x : Int}
theorem ff_some : ∀ {m i j : Nat}, ff g i m x = some j → i ≤ j ∧ j < i + m ∧ g j = some x
  | 0, _, _, h => by cases h
  | m + 1, i, j, h => by
    unfold ff at h
    split at h
    · injection h with h; subst h; exact ⟨Nat.le_refl _, by omega, by assumption⟩
    · obtain ⟨h1, h2, h3⟩ := ff_some h
      exact ⟨by omega, by omega, h3⟩
theorem ff_hit {m i : Nat} (h : g i = some x) : ff g i (m + 1) x = some i := by simp [ff, h]
theorem ff_miss {m i : Nat} (h : g i ≠ some x) : ff g i (m + 1) x = ff g (i + 1) m x := by simp [ff, h]
theorem mo_succ (m i : Nat) : mo g a i (m + 1) = max (mo g a (i + 1) m) ((g i).getD a) := rfl
theorem mo_low : ∀ (m i : Nat), a ≤ mo g a i m
  | 0, _ => Int.le_refl _
  | m + 1, i => by
    have := mo_low m (i + 1)
    rw [mo_succ]; omega
theorem mo_ge : ∀ {m i j : Nat}, i ≤ j → j < i + m → g j = some x → x ≤ mo g a i m
  | 0, _, _, h1, h2, _ => by omega
  | m + 1, i, j, h1, h2, h => by
    rw [mo_succ]
    by_cases e : j = i
    · subst e; rw [h]; simp only [Option.getD_some]; omega
    · have := mo_ge (show i + 1 ≤ j by omega) (show j < i + 1 + m by omega) h
      omega
theorem mo_none {m i : Nat} (h : g i = none) : mo g a i (m + 1) = mo g a (i + 1) m := by
  have := mo_low (g := g) (a := a) m (i + 1)
  rw [mo_succ, h]; simp only [Option.getD_none]; omega
theorem mo_some {m i : Nat} (h : g i = some x) : mo g a i (m + 1) = max (mo g a (i + 1) m) x := by rw [mo_succ, h]; rfl
theorem mo_bd {T : Int} (ha : a ≤ T) (hg : ∀ i y, g i = some y → y ≤ T) : ∀ (m i : Nat), mo g a i m ≤ T
  | 0, _ => ha
  | m + 1, i => by
    have := mo_bd ha hg m (i + 1)
    rw [mo_succ]
    cases h : g i with
    | none => simp only [Option.getD_none]; omega
    | some y => have := hg i y h; simp only [Option.getD_some]; omega
theorem ff_le {m i j : Nat} (h : ff g i m x = some j) : x ≤ mo g a i m := by
  obtain ⟨h1, h2, h3⟩ := ff_some h
  exact mo_ge h1 h2 h3
theorem chn_some {i m f j : Nat} {n : Int} (h : ff g i m n = some j) (hf : 0 < f) : chn g i m f n = j :: chn g i m (f - 1) (n + 1) := by
  obtain ⟨f, rfl⟩ : ∃ k, f = k + 1 := ⟨f - 1, by omega⟩
  simp [chn, h]
theorem chn_none {i m f : Nat} {n : Int} (h : ff g i m n = none) : chn g i m f n = [] := by
  cases f <;> simp [chn, h]
end
section
variable {b : Nat → Bool}
theorem stp_nil : stp b [] = [] := rfl
theorem stp_yes {l : List Nat} {j : Nat} (h : b j = true) : stp b (l ++ [j]) = l ++ [j] := by simp [stp, h]
theorem stp_no {l : List Nat} {j : Nat} (h : b j = false) : stp b (l ++ [j]) = stp b l := by simp [stp, h]
theorem stp_pre (l : List Nat) : ∃ r, l = stp b l ++ r := by
  refine ⟨(l.reverse.takeWhile (fun j => !b j)).reverse, ?_⟩
  unfold stp
  rw [← List.reverse_append, List.takeWhile_append_dropWhile, List.reverse_reverse]
theorem stp_take (l : List Nat) : l.take (stp b l).length = stp b l := by
  obtain ⟨r, h⟩ := stp_pre (b := b) l
  conv => lhs; rw [h]
  rw [← h]
  conv => lhs; arg 2; rw [h]
  rw [List.take_left' rfl]
theorem stp_le (l : List Nat) : (stp b l).length ≤ l.length := by
  obtain ⟨r, h⟩ := stp_pre (b := b) l
  have := congrArg List.length h
  rw [List.length_append] at this; omega
end

/-- The number of a cell of the log; none, if it is no right one. -/
noncomputable def lgN (cs : List ByteArray) (ws : List PutD) (i : Nat) : Option Int := if scO (nowS cs ws i) = true then some (scN (nowS cs ws i)) else none
noncomputable def lgB (cs : List ByteArray) (ws : List PutD) (i : Nat) : Bool := scB (nowS cs ws i)
noncomputable def scnM (cs : List ByteArray) (ws : List PutD) (a : Int) : Int := mo (lgN cs ws) a 2 (cs.length - 2)
noncomputable def scnC (cs : List ByteArray) (ws : List PutD) (a : Int) : List Nat := chn (lgN cs ws) 2 (cs.length - 2) (scnM cs ws a - a).toNat (a + 1)
noncomputable def scnL (cs : List ByteArray) (ws : List PutD) (a : Int) : List Nat := stp (lgB cs ws) (scnC cs ws a)
theorem scN_bd (t : ByteArray) : 0 ≤ scN t ∧ scN t < 4294967296 := by
  unfold scN openN
  have := oN_bd t
  split
  · split <;> omega
  · omega
theorem lgN_bd {cs : List ByteArray} {ws : List PutD} {i : Nat} {y : Int} (h : lgN cs ws i = some y) : 0 ≤ y ∧ y < 4294967296 := by
  unfold lgN at h
  split at h
  · injection h with h; rw [← h]; exact scN_bd _
  · cases h
theorem lgN_yes {cs : List ByteArray} {ws : List PutD} {i : Nat} (h : scO (nowS cs ws i) = true) : lgN cs ws i = some (scN (nowS cs ws i)) := if_pos h
theorem lgN_no {cs : List ByteArray} {ws : List PutD} {i : Nat} (h : scO (nowS cs ws i) = false) : lgN cs ws i = none := if_neg (by rw [h]; decide)
theorem scnM_bd {cs : List ByteArray} {ws : List PutD} {a : Int} (ha : a < 4294967296) : a ≤ scnM cs ws a ∧ scnM cs ws a < 4294967296 :=
  ⟨mo_low _ _, by have := mo_bd (g := lgN cs ws) (a := a) (T := 4294967295) (by omega) (fun i y h => by have := lgN_bd h; omega) (cs.length - 2) 2; unfold scnM; omega⟩
end Go.Proofs.Ytjmgocfoimhmjaa

/- Entries: what they hold; the map of them; slices.Index, Contains, EqualFunc at entries, walked. -/
namespace Go.Proofs.Ytjmgocfoimhmjaa
open Go.RowKit Go.Maps

structure EnV where
  i : Int
  A : Option Addr
  n : Nat
  c : Nat
  b : Bool
def EnV.cells (v : EnV) : List Value := [.int .i64 v.i, .slice v.A v.n v.c, .bool v.b]
def EnV.val (v : EnV) : Value := .agg #[.int .i64 v.i, .slice v.A v.n v.c, .bool v.b]

theorem RowsIn.keepS {α : Type} {w w' : World} {B n c k : Nat} {A : Option Addr} {enc : α → List Value} {xs : List α} (h : RowsIn w B A n c enc k xs) (hk : ∀ (p : Addr) (u : Value), p.block < B → w.cell? p = some u → w'.cell? p = some u) : RowsIn w' B A n c enc k xs :=
  ⟨h.len, h.le, h.top, fun i x hx => by
    obtain ⟨b, o, e, hb, hc⟩ := h.at_ i x hx
    exact ⟨b, o, e, hb, fun j u hu => hk ⟨b, _, none⟩ _ hb (hc j u hu)⟩⟩

/-- The entry says cell j. -/
structure EnOk (cs : List ByteArray) (ws : List PutD) (W : World) (B : Nat) (j : Nat) (v : EnV) : Prop where
  at_ : v.i = (j : Int)
  last : v.b = lgB cs ws j
  rows : RowsIn W B v.A v.n v.c BlobD.cells 4 (scL (nowS cs ws j))
theorem EnOk.keep {cs : List ByteArray} {ws : List PutD} {W W' : World} {B B' j : Nat} {v : EnV} (h : EnOk cs ws W B j v) (hB : B ≤ B') (hb : Below B W W') : EnOk cs ws W' B' j v := ⟨h.at_, h.last, (h.rows.below hb).more hB⟩
theorem EnOk.keepS {cs : List ByteArray} {ws : List PutD} {W W' : World} {B B' j : Nat} {v : EnV} (h : EnOk cs ws W B j v) (hB : B ≤ B') (hk : ∀ (p : Addr) (u : Value), p.block < B → W.cell? p = some u → W'.cell? p = some u) : EnOk cs ws W' B' j v := ⟨h.at_, h.last, (h.rows.keepS hk).more hB⟩
def EnsOk (cs : List ByteArray) (ws : List PutD) (W : World) (B : Nat) : List Nat → List EnV → Prop
  | [], [] => True
  | j :: js, v :: vs => EnOk cs ws W B j v ∧ EnsOk cs ws W B js vs
  | _, _ => False
section
variable {cs : List ByteArray} {ws : List PutD} {W W' : World} {B B' : Nat}
theorem ens_len : ∀ {js : List Nat} {vs : List EnV}, EnsOk cs ws W B js vs → js.length = vs.length
  | [], [], _ => rfl
  | _ :: _, _ :: _, h => by simp [ens_len h.2]
  | [], _ :: _, h => h.elim
  | _ :: _, [], h => h.elim
theorem ens_keep (hB : B ≤ B') (hb : Below B W W') : ∀ {js : List Nat} {vs : List EnV}, EnsOk cs ws W B js vs → EnsOk cs ws W' B' js vs
  | [], [], _ => trivial
  | _ :: _, _ :: _, h => ⟨h.1.keep hB hb, ens_keep hB hb h.2⟩
  | [], _ :: _, h => h.elim
  | _ :: _, [], h => h.elim
theorem ens_keepS (hB : B ≤ B') (hk : ∀ (p : Addr) (u : Value), p.block < B → W.cell? p = some u → W'.cell? p = some u) : ∀ {js : List Nat} {vs : List EnV}, EnsOk cs ws W B js vs → EnsOk cs ws W' B' js vs
  | [], [], _ => trivial
  | _ :: _, _ :: _, h => ⟨h.1.keepS hB hk, ens_keepS hB hk h.2⟩
  | [], _ :: _, h => h.elim
  | _ :: _, [], h => h.elim
theorem ens_snoc {j : Nat} {v : EnV} (hj : EnOk cs ws W B j v) : ∀ {js : List Nat} {vs : List EnV}, EnsOk cs ws W B js vs → EnsOk cs ws W B (js ++ [j]) (vs ++ [v])
  | [], [], _ => ⟨hj, trivial⟩
  | _ :: _, _ :: _, h => ⟨h.1, ens_snoc hj h.2⟩
  | [], _ :: _, h => h.elim
  | _ :: _, [], h => h.elim
theorem ens_take : ∀ (t : Nat) {js : List Nat} {vs : List EnV}, EnsOk cs ws W B js vs → EnsOk cs ws W B (js.take t) (vs.take t)
  | 0, _, _, _ => by simp [EnsOk]
  | t + 1, [], [], _ => trivial
  | t + 1, _ :: _, _ :: _, h => ⟨h.1, ens_take t h.2⟩
  | _ + 1, [], _ :: _, h => h.elim
  | _ + 1, _ :: _, [], h => h.elim
theorem ens_get : ∀ {js : List Nat} {vs : List EnV} {k j : Nat}, EnsOk cs ws W B js vs → js[k]? = some j → ∃ v, vs[k]? = some v ∧ EnOk cs ws W B j v
  | [], _, k, _, _, hj => by simp at hj
  | _ :: _, [], _, _, h, _ => h.elim
  | _ :: _, v :: _, 0, _, h, hj => by simp at hj; subst hj; exact ⟨v, rfl, h.1⟩
  | _ :: _, _ :: _, k + 1, _, h, hj => by simpa using ens_get h.2 (by simpa using hj)
end

/-- An element of the map, as it stands. -/
def heldV (v : Value) : Option (DataW Value × List MemPlace) := some (.held v, [])
def en0 : EnV := ⟨0, none, 0, 0, false⟩
def MapIs (D : DataW Value) (f : Int → Option EnV) : Prop := ∀ x : Int, Maps.has D (.int .i64 x) = (f x).isSome ∧ D.atKey (.int .i64 x) (.held en0.val) = .held ((f x).getD en0).val
theorem mapIs_nil : MapIs (.map []) (fun _ => none) := fun _ => ⟨rfl, rfl⟩
theorem mapIs_put {D : DataW Value} {f : Int → Option EnV} {y : Int} {v : EnV} (hD : IsMap D) (h : MapIs D f) : MapIs (D.put (.int .i64 y) (.held v.val)) (fun x => if x = y then some v else f x) := fun x => by
  by_cases e : x = y
  · subst e
    rw [has_put_same hD (show WideAt.IsKeyLit (.int .i64 x) from trivial), atKey_put_same hD (show WideAt.IsKeyLit (.int .i64 x) from trivial)]
    simp
  · rw [has_put_other (by simpa using e), atKey_put_other (by simpa using e), (h x).1, (h x).2]
    simp [e]
/-- 'v, ok := m[k]' at entries. -/
theorem wpList_lookup_en {P : Program} (w : World) {ops : Array Oper} {rest : List Oper} {o : Oper} {a : Act} {Q : Exit → Act → World → Prop} (hg : o.guard = none) (m x : Operand) (t : TypeId) (hop : o.op = Op.lookup t m x true)
    (k e : TypeId) (K : Keyed P k) (ht : P.underlying t = some (.map k e)) (hz : (zeroValue e).run P w = .ok en0.val w) (b n : Nat) (D : DataW Value) (f : Int → Option EnV) (hf : MapIs D f)
    (hm : a.eval m = .map (some b)) (hown : w.ownsMap P k heldV b n D) (y : Int) (hx : a.eval x = .int .i64 y) (hkey : keyOf P k (.int .i64 y) = some (.int .i64 y)) (r : Bool) (v : EnV) (hr : (f y).isSome = r) (hv : (f y).getD en0 = v)
    (hK : wpList P ops Q rest (a.put o.dst (.tuple #[.agg #[.int .i64 v.i, .slice v.A v.n v.c, .bool v.b], .bool r])) w) : wpList P ops Q (o :: rest) a w :=
  wpList_lookup_own_ok w hg m x t hop k e K ht heldV hz (.held en0.val) [] rfl b n D hm hown _ _ hx hkey (fun u ps hu => by
    rw [(hf y).2, hv] at hu
    rw [(hf y).1, hr]
    injection hu with hu
    injection hu with hu _
    injection hu with hu
    subst hu
    exact hK)

/-- slices.Index's answer. -/
def IxIs (ns : List Int) (x : Int) (r : Int) : Prop := (∃ p : Nat, r = (p : Int) ∧ ns[p]? = some x ∧ ∀ q, q < p → ns[q]? ≠ some x) ∨ (r = -1 ∧ x ∉ ns)
set_option maxRecDepth 20000 in
set_option maxHeartbeats 1000000 in
theorem index_any (A : Option Addr) (n c : Nat) (ns : List Int) (x : Int) (B : Nat) (w : World) (r : RowsIn w B A n c (fun z => [.int .i64 z]) 1 ns) :
    Calls Try.prog 81 #[.slice A n c, .int .i64 x] w fun e w' => (∃ i, e = .returned (.int .i64 i) ∧ IxIs ns x i) ∧ w' = w := by
  have hn := r.len
  subst hn
  have htop : (ns.length : Int) ≤ 9223372036854775807 := by have h1 := r.le; have h2 := r.top; unfold maxLen at h2; omega
  go_enter Try.func81, Try.ntmps81
  go_wp2
  go_loop [8] (fun v8 => ∃ i : Nat, i ≤ ns.length ∧ v8 = .int .i64 i ∧ Hid (∀ q, q < i → ns[q]? ≠ some x)) (fun v8 => ns.length - (intOf v8).toNat)
  case atStart => exact ⟨0, Nat.zero_le _, rfl, fun q hq => absurd hq (Nat.not_lt_zero q)⟩
  case round =>
    obtain ⟨i, hi, rfl, HI⟩ := hrel
    by_cases hlt : i < ns.length
    · have e1 := List.getElem?_eq_getElem hlt
      generalize ns[i] = y at e1
      have E1 := Lib.hid e1
      obtain ⟨b, o, rfl, hbB, hc⟩ := r.one e1
      have hil : (i : Int) < (ns.length : Int) := by omega
      clear e1
      by_cases hy : x = y
      · subst hy
        go_wp2
        go_ret
        exact ⟨⟨_, rfl, .inl ⟨i, rfl, E1.out, HI.out⟩⟩, rfl⟩
      · have F : Hid (∀ q, q < i + 1 → ns[q]? ≠ some x) := fun q hq => by
          rcases Nat.lt_or_ge q i with h | h
          · exact HI.out q h
          · obtain rfl : q = i := by omega
            rw [E1.out]; intro h; injection h with h; exact hy h.symm
        go_wp2
        go_round
        case rel => exact ⟨i + 1, by omega, by go_num, F.out⟩
        case measure => (simp [intOf]; try omega)
    · have F : Hid (x ∉ ns) := fun h => by
        obtain ⟨q, hq, e⟩ := List.getElem_of_mem h
        exact HI.out q (by omega) (by rw [List.getElem?_eq_getElem hq, e])
      have hil : ¬ (i : Int) < (ns.length : Int) := by omega
      go_wp2
      go_ret
      exact ⟨⟨_, rfl, .inr ⟨rfl, F.out⟩⟩, rfl⟩
set_option maxRecDepth 20000 in
set_option maxHeartbeats 1000000 in
theorem contains_yes (A : Option Addr) (n c : Nat) (ns : List Int) (x : Int) (B : Nat) (w : World) (r : RowsIn w B A n c (fun z => [.int .i64 z]) 1 ns) (hx : x ∈ ns) :
    Calls Try.prog 80 #[.slice A n c, .int .i64 x] w fun e w' => e = .returned (.bool true) ∧ w' = w := by
  have H := Lib.hid (index_any A n c ns x B w r)
  have HX := Lib.hid hx
  clear hx r
  go_enter Try.func80, Try.ntmps80
  go_wp2_with (go_at_call 81; refine H.out.mono ?_; rintro e w' ⟨⟨i, rfl, hi⟩, rfl⟩; have hi0 : (0 : Int) ≤ i := (hi.elim (fun ⟨p, h, _⟩ => h ▸ Int.natCast_nonneg p) (fun h => absurd HX.out h.2)))
  go_ret
  exact ⟨rfl, rfl⟩
set_option maxRecDepth 20000 in
set_option maxHeartbeats 1000000 in
theorem contains_no (A : Option Addr) (n c : Nat) (ns : List Int) (x : Int) (B : Nat) (w : World) (r : RowsIn w B A n c (fun z => [.int .i64 z]) 1 ns) (hx : x ∉ ns) :
    Calls Try.prog 80 #[.slice A n c, .int .i64 x] w fun e w' => e = .returned (.bool false) ∧ w' = w := by
  have H := Lib.hid (index_any A n c ns x B w r)
  have HX := Lib.hid hx
  clear hx r
  go_enter Try.func80, Try.ntmps80
  go_wp2_with (go_at_call 81; refine H.out.mono ?_; rintro e w' ⟨⟨i, rfl, hi⟩, rfl⟩; obtain rfl : i = -1 := (hi.elim (fun ⟨p, _, h, _⟩ => absurd (List.mem_of_getElem? h) HX.out) (fun h => h.1)))
  go_ret
  exact ⟨rfl, rfl⟩

set_option maxRecDepth 20000 in
set_option maxHeartbeats 1000000 in
theorem sameEntry_any (cs : List ByteArray) (ws : List PutD) (j : Nat) (u v : EnV) (w : World) (h : EnOk cs ws w w.heap.size j u) (h' : EnOk cs ws w w.heap.size j v) :
    Calls Try.prog 48 #[.agg #[.int .i64 u.i, .slice u.A u.n u.c, .bool u.b], .agg #[.int .i64 v.i, .slice v.A v.n v.c, .bool v.b]] w fun e w' => e = .returned (.bool true) ∧ Below w.heap.size w w' := by
  obtain ⟨i, A, n, c, b⟩ := u
  obtain ⟨i', A', n', c', b'⟩ := v
  obtain ⟨h1, h2, h3⟩ := h
  obtain ⟨k1, k2, k3⟩ := h'
  simp only at h1 h2 h3 k1 k2 k3
  subst h1; subst k1
  have hbb : b' = b := k2.trans h2.symm
  subst hbb
  generalize scL (nowS cs ws j) = L at *
  clear h2 k2
  have HB : Hid (∀ W, Below w.heap.size w W → Calls Try.prog 55 #[.slice A n c, .slice A' n' c'] W fun e w' => e = .returned (.bool true) ∧ Below W.heap.size W w') := fun W hb => eqyBlob A n c L A' n' c' _ _ W (h3.below hb) (k3.below hb)
  have HW : Hid (Below w.heap.size w ((w.alloc (.cells #[.int .i64 j, .slice A n c, .bool b'] 85)).alloc (.cells #[.int .i64 j, .slice A' n' c', .bool b'] 85))) := ((Below.refl _ _).alloc (Nat.le_refl _) _).alloc (by simp) _
  have e0 : (w.alloc (.cells #[.int .i64 j, .slice A n c, .bool b'] 85)).heap[w.heap.size]? = _ := heap_alloc_new w _
  have e1 := row_alloc e0 (.cells #[.int .i64 j, .slice A' n' c', .bool b'] 85)
  have e2 := heap_alloc_new (w.alloc (.cells #[.int .i64 j, .slice A n c, .bool b'] 85)) (.cells #[.int .i64 j, .slice A' n' c', .bool b'] 85)
  rw [show (w.alloc (.cells #[.int .i64 j, .slice A n c, .bool b'] 85)).heap.size = w.heap.size + 1 by simp] at e2
  have c0 := row_cell e1 0
  have c1 := row_cell e1 1
  have c2 := row_cell e1 2
  have d0 := row_cell e2 0
  have d1 := row_cell e2 1
  have d2 := row_cell e2 2
  clear e0 e1 e2 h3 k3
  cases b' <;>
  · go_enter Try.func48, Try.ntmps48
    go_wp2_with (go_at_call 55; refine (HB.out _ HW.out).mono ?_; rintro e w' ⟨rfl, hb⟩)
    go_ret
    exact ⟨rfl, HW.out.trans (hb.mono HW.out.size)⟩
end Go.Proofs.Ytjmgocfoimhmjaa

/- slices.EqualFunc at entries by linenref.SameEntry, walked. -/
namespace Go.Proofs.Ytjmgocfoimhmjaa
open Go.RowKit

theorem cf_same : ∀ (args : Array Value) (W : World), (callFunc 48 args).run Try.prog W = .ok (.enter 48 args) W := fun args W => by kernel_rfl
theorem enCells {w : World} {B n c : Nat} {A : Option Addr} {l : List EnV} (r : RowsIn w B A n c EnV.cells 3 l) {i : Nat} {p : EnV} (h : l[i]? = some p) : ∃ b o, A = some ⟨b, o, none⟩ ∧ b < B ∧ w.cell? ⟨b, o + i * 3, none⟩ = some (.int .i64 p.i) ∧ w.cell? ⟨b, o + i * 3 + 1, none⟩ = some (.slice p.A p.n p.c) ∧ w.cell? ⟨b, o + i * 3 + 2, none⟩ = some (.bool p.b) := by
  obtain ⟨b, o, e, hb, hc⟩ := r.at_ i p h
  exact ⟨b, o, e, hb, hc 0 _ rfl, hc 1 _ rfl, hc 2 _ rfl⟩
set_option maxRecDepth 20000 in
set_option maxHeartbeats 1000000 in
theorem eqf_any (cs : List ByteArray) (ws : List PutD) (js : List Nat) (A : Option Addr) (n c : Nat) (vs : List EnV) (A' : Option Addr) (n' c' : Nat) (vs' : List EnV) (w : World) (h : EnsOk cs ws w w.heap.size js vs) (h' : EnsOk cs ws w w.heap.size js vs') (r : RowsIn w w.heap.size A n c EnV.cells 3 vs) (r' : RowsIn w w.heap.size A' n' c' EnV.cells 3 vs') :
    Calls Try.prog 47 #[.slice A n c, .slice A' n' c', .func (.func 48) #[] #[]] w fun e w' => e = .returned (.bool true) ∧ Below w.heap.size w w' := by
  have hn := r.len
  subst hn
  have hn' := r'.len
  have hl : vs'.length = vs.length := by rw [← ens_len h, ← ens_len h']
  obtain rfl : n' = vs.length := by rw [← hn', hl]
  have htop : (vs.length : Int) ≤ 9223372036854775807 := by have h1 := r.le; have h2 := r.top; unfold maxLen at h2; omega
  have hcf := cf_same
  have HJ : Hid (js.length = vs.length) := ens_len h
  have HL := Lib.hid hl
  have HE := Lib.hid h
  have HE' := Lib.hid h'
  have R := Lib.hid r
  have R' := Lib.hid r'
  clear hn' hl h h' r r'
  go_enter Try.func47, Try.ntmps47
  go_wp2
  go_loopw [17] (fun v17 wr => ∃ i : Nat, i ≤ vs.length ∧ v17 = .int .i64 i ∧ Below w.heap.size w wr) (fun v17 _ => vs.length - (intOf v17).toNat)
  case atStart => exact ⟨0, Nat.zero_le _, rfl, Below.refl _ _⟩
  case round =>
    obtain ⟨i, hi, rfl, hb⟩ := hrel
    obtain ⟨wq, rfl⟩ : ∃ z : World, z = wr := ⟨_, rfl⟩
    have HB := Lib.hid hb
    clear hb
    by_cases hlt : i < vs.length
    · obtain ⟨j, e1⟩ : ∃ j, js[i]? = some j := ⟨_, List.getElem?_eq_getElem (show i < js.length by have := HJ.out; omega)⟩
      obtain ⟨u, g1, k1⟩ := ens_get (ens_keep (Nat.le_refl _) HB.out HE.out) e1
      obtain ⟨v, g2, k2⟩ := ens_get (ens_keep (Nat.le_refl _) HB.out HE'.out) e1
      obtain ⟨b, o, rfl, hbB, p0, p1, p2⟩ := enCells (R.out.below HB.out) g1
      obtain ⟨b', o', rfl, hbB', p0', p1', p2'⟩ := enCells (R'.out.below HB.out) g2
      have hil : (i : Int) < (vs.length : Int) := by omega
      have K1 := Lib.hid k1
      have K2 := Lib.hid k2
      clear e1 g1 g2 k1 k2
      have q0 := (World.cell?_alloc_lt wq (.cells #[.int .i64 u.i, .slice u.A u.n u.c, .bool u.b] 85) ⟨b', o' + i * 3, none⟩ (Nat.lt_of_lt_of_le hbB' HB.out.size)).trans p0'
      have q1 := (World.cell?_alloc_lt wq (.cells #[.int .i64 u.i, .slice u.A u.n u.c, .bool u.b] 85) ⟨b', o' + i * 3 + 1, none⟩ (Nat.lt_of_lt_of_le hbB' HB.out.size)).trans p1'
      have q2 := (World.cell?_alloc_lt wq (.cells #[.int .i64 u.i, .slice u.A u.n u.c, .bool u.b] 85) ⟨b', o' + i * 3 + 2, none⟩ (Nat.lt_of_lt_of_le hbB' HB.out.size)).trans p2'
      have e0 : (wq.alloc (.cells #[.int .i64 u.i, .slice u.A u.n u.c, .bool u.b] 85)).heap[wq.heap.size]? = _ := heap_alloc_new wq _
      have e1 := row_alloc e0 (.cells #[.int .i64 v.i, .slice v.A v.n v.c, .bool v.b] 85)
      have e2 := heap_alloc_new (wq.alloc (.cells #[.int .i64 u.i, .slice u.A u.n u.c, .bool u.b] 85)) (.cells #[.int .i64 v.i, .slice v.A v.n v.c, .bool v.b] 85)
      rw [show (wq.alloc (.cells #[.int .i64 u.i, .slice u.A u.n u.c, .bool u.b] 85)).heap.size = wq.heap.size + 1 by simp] at e2
      obtain ⟨wo, hwo⟩ : ∃ wo, wo = (wq.alloc (.cells #[.int .i64 u.i, .slice u.A u.n u.c, .bool u.b] 85)).alloc (.cells #[.int .i64 v.i, .slice v.A v.n v.c, .bool v.b] 85) := ⟨_, rfl⟩
      have hbo : Below w.heap.size w wo := by rw [hwo]; exact (HB.out.alloc HB.out.size _).alloc (by have := HB.out.size; simp; omega) _
      rw [← hwo] at e1 e2
      have c0 := row_cell e1 0
      have c1 := row_cell e1 1
      have c2 := row_cell e1 2
      have d0 := row_cell e2 0
      have d1 := row_cell e2 1
      have d2 := row_cell e2 2
      have HC := Lib.hid (sameEntry_any cs ws j u v wo (K1.out.keep hbo.size (by rw [hwo]; exact ((Below.refl _ _).alloc (show w.heap.size ≤ wq.heap.size from HB.out.size) _).alloc (by have := HB.out.size; simp; omega) _)) (K2.out.keep hbo.size (by rw [hwo]; exact ((Below.refl _ _).alloc (show w.heap.size ≤ wq.heap.size from HB.out.size) _).alloc (by have := HB.out.size; simp; omega) _)))
      have HBO := Lib.hid hbo
      have HWO := Lib.hid hwo
      clear hbo hwo e0 e1 e2
      obtain ⟨ui, uA, un, uc, ub⟩ := u
      obtain ⟨vi, vA, vn, vc, vb⟩ := v
      simp only at p0 p1 p2 q0 q1 q2 c0 c1 c2 d0 d1 d2
      go_wp2_with (rw [← HWO.out]; refine HC.out.mono ?_; rintro e w' ⟨rfl, hb5⟩)
      go_roundw
      case rel => exact ⟨i + 1, by omega, by go_num, HBO.out.trans (hb5.mono HBO.out.size)⟩
      case measure => (simp [intOf]; try omega)
    · have hil : ¬ (i : Int) < (vs.length : Int) := by omega
      go_wp2
      go_ret
      exact ⟨rfl, HB.out⟩
end Go.Proofs.Ytjmgocfoimhmjaa

namespace Go.Proofs.Ytjmgocfoimhmjaa
open Go.RowKit Go.Maps

theorem info_en : (Try.prog.info? 85).map (fun i => (i.zero, i.size, i.bytes)) = some (some (.agg #[.int .i64 0, .slice none 0 0, .bool false]), 3, 40) := by kernel_rfl
theorem mapLawS : Keyed Try.prog 3 := int_keyed Try.underlying3
theorem zeroEn (w : World) : (zeroValue 85).run Try.prog w = .ok en0.val w := by kernel_rfl
theorem map_kept {w w' : World} {b : Nat} {es : Array MapEntry} {c : Nat} (hm : w.heap[b]? = some (.map es c)) (hg : w.grownBy w' (some b)) (p : Addr) (u : Value) (_ : p.block < w.heap.size) (h : w.cell? p = some u) : w'.cell? p = some u := by
  by_cases e : p.block = b
  · subst e
    unfold World.cell? at h
    rw [hm] at h
    simp at h
  · exact hg.cell h (fun h => e (by injection h))
theorem ownsMap_below {H : Type} {w w' : World} {P : Program} {k : TypeId} {R : Value → Option (DataW H × List MemPlace)} {b n : Nat} {D : DataW H} (h : w.ownsMap P k R b n D) (hb : Below w.heap.size w w') : w'.ownsMap P k R b n D := by
  have hlt := h.lt
  obtain ⟨es, clock, h1, h2, h3, h4⟩ := h
  exact ⟨es, clock, (hb.block _ hlt).trans h1, h2, h3, h4⟩
theorem rows_pre {α : Type} {w : World} {B n c c' k t : Nat} {A : Option Addr} {enc : α → List Value} {xs : List α} (h : RowsIn w B A n c enc k xs) (ht : t ≤ n) (hc : t ≤ c') (hm : c' ≤ maxLen) : RowsIn w B A t c' enc k (xs.take t) :=
  ⟨by rw [List.length_take, h.len]; omega, hc, hm, fun i x hx => h.at_ i x (by
    rw [List.getElem?_take] at hx
    split at hx
    · exact hx
    · cases hx)⟩
/-- What scan.Run and linenref.Scan hand back. -/
noncomputable def scnE (cs : List ByteArray) (ws : List PutD) (a : Int) : Int := if dskE cs ws ≠ 0 then dskE cs ws else if a < 0 ∨ 2147483647 < a then 1 else 0
def RunPost (cs : List ByteArray) (ws : List PutD) (a : Int) (w : World) (e : Ending) (w' : World) : Prop :=
  (scnE cs ws a ≠ 0 ∧ e = .returned (.tuple #[.slice none 0 0, .int .i64 0, .int .i64 (scnE cs ws a)]) ∧ Below w.heap.size w w') ∨
  (scnE cs ws a = 0 ∧ (∃ A n c vs, e = .returned (.tuple #[.slice A n c, .int .i64 (scnM cs ws a), .int .i64 0]) ∧ RowsIn w' w'.heap.size A n c EnV.cells 3 vs ∧ EnsOk cs ws w' w'.heap.size (scnL cs ws a) vs) ∧ Below w.heap.size w w')
theorem scnE_dsk {cs : List ByteArray} {ws : List PutD} {a : Int} (h : dskE cs ws ≠ 0) : scnE cs ws a = dskE cs ws := if_pos h
theorem scnE_arg {cs : List ByteArray} {ws : List PutD} {a : Int} (h : dskE cs ws = 0) (h2 : a < 0 ∨ 2147483647 < a) : scnE cs ws a = 1 := by unfold scnE; rw [if_neg (by rw [h]; decide), if_pos h2]
theorem scnE_ok {cs : List ByteArray} {ws : List PutD} {a : Int} (h : dskE cs ws = 0) (h2 : ¬ (a < 0 ∨ 2147483647 < a)) : scnE cs ws a = 0 := by unfold scnE; rw [if_neg (by rw [h]; decide), if_neg h2]

/-- The loop over the cells, from the last on: those from k on are done. -/
structure RnI (cs : List ByteArray) (ws : List PutD) (wq : World) (k : Nat) (D : DataW Value) (f : Int → Option EnV) (wr : World) : Prop where
  map : wr.ownsMap Try.prog 3 heldV wq.heap.size (cs.length - k) D
  is : MapIs D f
  fs : ∀ x, (ff (lgN cs ws) k (cs.length - k) x = none → f x = none) ∧ ∀ j, ff (lgN cs ws) k (cs.length - k) x = some j → ∃ v, f x = some v ∧ EnOk cs ws wr wr.heap.size j v
  below : Below wq.heap.size wq wr
  size : wq.heap.size + 1 ≤ wr.heap.size
theorem rn_no {cs : List ByteArray} {ws : List PutD} {wq wr w1 : World} {k : Nat} {D : DataW Value} {f : Int → Option EnV} (h : RnI cs ws wq (k + 1) D f wr) (hk : k < cs.length) (ho : scO (nowS cs ws k) = false) (hb : Below wr.heap.size wr w1) : RnI cs ws wq k D f w1 := by
  have e : cs.length - k = (cs.length - (k + 1)) + 1 := by omega
  refine { map := ?_, is := h.is, fs := fun x => ?_, below := h.below.trans (hb.mono h.below.size), size := Nat.le_trans h.size hb.size }
  · obtain ⟨es, clock, h1, h2, h3, h4⟩ := h.map
    exact ⟨es, clock, (hb.block _ h.size).trans h1, h2, by omega, h4⟩
  · rw [e, ff_miss (by rw [lgN_no ho]; intro h; cases h)]
    exact ⟨(h.fs x).1, fun j hj => by
      obtain ⟨v, h1, h2⟩ := (h.fs x).2 j hj
      exact ⟨v, h1, h2.keep hb.size hb⟩⟩
theorem rn_yes {cs : List ByteArray} {ws : List PutD} {wq wr w1 wm : World} {k : Nat} {D : DataW Value} {f : Int → Option EnV} {A : Option Addr} {q d : Nat} (h : RnI cs ws wq (k + 1) D f wr) (hk : k < cs.length) (ho : scO (nowS cs ws k) = true) (hb : Below wr.heap.size wr w1)
    (hr : RowsIn w1 w1.heap.size A q d BlobD.cells 4 (scL (nowS cs ws k))) (hm : wm.ownsMap Try.prog 3 heldV wq.heap.size (cs.length - (k + 1) + 1) (D.put (.int .i64 (scN (nowS cs ws k))) (.held (EnV.val ⟨(k : Int), A, q, d, scB (nowS cs ws k)⟩)))) (hg : w1.grownBy wm (some wq.heap.size)) :
    RnI cs ws wq k (D.put (.int .i64 (scN (nowS cs ws k))) (.held (EnV.val ⟨(k : Int), A, q, d, scB (nowS cs ws k)⟩))) (fun x => if x = scN (nowS cs ws k) then some ⟨(k : Int), A, q, d, scB (nowS cs ws k)⟩ else f x) wm := by
  have e : cs.length - k = (cs.length - (k + 1)) + 1 := by omega
  have hb1 : Below wq.heap.size wq w1 := h.below.trans (hb.mono h.below.size)
  obtain ⟨es, clock, h1, _⟩ := h.map
  have h1' : w1.heap[wq.heap.size]? = some (.map es clock) := (hb.block _ h.size).trans h1
  have hkp := map_kept h1' hg
  refine { map := by rw [e]; exact hm, is := mapIs_put h.map.isMap h.is, fs := fun x => ?_, below := hb1.grown hg hb1.size (fun k hk => by injection hk with hk; omega), size := Nat.le_trans h.size (Nat.le_trans hb.size hg.size) }
  rw [e]
  by_cases hx : x = scN (nowS cs ws k)
  · subst hx
    rw [ff_hit (lgN_yes ho)]
    refine ⟨fun h => by (cases h), fun j hj => ⟨⟨(k : Int), A, q, d, scB (nowS cs ws k)⟩, if_pos rfl, ?_⟩⟩
    injection hj with hj
    subst hj
    exact ⟨rfl, rfl, (hr.keepS hkp).more hg.size⟩
  · rw [ff_miss (by rw [lgN_yes ho]; intro h; injection h with h; exact hx h.symm)]
    refine ⟨fun hn => by show (if _ then _ else _) = _; rw [if_neg hx]; exact (h.fs x).1 hn, fun j hj => ?_⟩
    obtain ⟨v, h2, h3⟩ := (h.fs x).2 j hj
    exact ⟨v, by show (if _ then _ else _) = _; rw [if_neg hx]; exact h2, (h3.keep hb.size hb).keepS hg.size hkp⟩

/-- The loop over the numbers. -/
structure RnJ (cs : List ByteArray) (ws : List PutD) (a : Int) (wz : World) (t : Nat) (js : List Nat) (vs : List EnV) (A : Option Addr) (c : Nat) (wr : World) : Prop where
  all : js ++ chn (lgN cs ws) 2 (cs.length - 2) ((scnM cs ws a - a).toNat - t) (a + 1 + (t : Int)) = scnC cs ws a
  top : t ≤ (scnM cs ws a - a).toNat
  ens : EnsOk cs ws wz wz.heap.size js vs
  own : Owns wr wz.heap.size 3 (.slice A vs.length c) vs.length (vs.flatMap EnV.cells)
  below : Below wz.heap.size wz wr
theorem rnJ_start (cs : List ByteArray) (ws : List PutD) (a : Int) (wz : World) : RnJ cs ws a wz 0 [] [] none 0 wz :=
  { all := by simp [scnC], top := Nat.zero_le _, ens := trivial, own := Owns.nil _ _ _, below := Below.refl _ _ }
theorem rnJ_lt {cs : List ByteArray} {ws : List PutD} {a : Int} {j t : Nat} (hf : ff (lgN cs ws) 2 (cs.length - 2) (a + 1 + (t : Int)) = some j) : t < (scnM cs ws a - a).toNat := by
  have := ff_le (a := a) hf
  unfold scnM; omega
theorem rnJ_add {cs : List ByteArray} {ws : List PutD} {a : Int} {wz wr w1 w5 : World} {t j : Nat} {js : List Nat} {vs : List EnV} {A A3 : Option Addr} {c c3 : Nat} {v : EnV} {row : Option Nat} (h : RnJ cs ws a wz t js vs A c wr) (hf : ff (lgN cs ws) 2 (cs.length - 2) (a + 1 + (t : Int)) = some j) (hv : EnOk cs ws wz wz.heap.size j v)
    (hb : Below wz.heap.size wz w1) (hl : Left w1 w5 wz.heap.size row) (hown : Owns w5 wz.heap.size 3 (.slice A3 (vs.length + 1) c3) (vs.length + 1) (vs.flatMap EnV.cells ++ [.int .i64 v.i, .slice v.A v.n v.c, .bool v.b])) :
    RnJ cs ws a wz (t + 1) (js ++ [j]) (vs ++ [v]) A3 c3 w5 ∧ (vs ++ [v]).length = vs.length + 1 := by
  have e : (vs ++ [v]).length = vs.length + 1 := by simp
  have hlt := rnJ_lt hf
  refine ⟨{ all := ?_, top := hlt, ens := ens_snoc hv h.ens, own := ?_, below := hl.below (Nat.le_refl _) hb }, e⟩
  · rw [← h.all, chn_some hf (by omega)]
    rw [show (scnM cs ws a - a).toNat - (t + 1) = (scnM cs ws a - a).toNat - t - 1 by omega, show a + 1 + ((t + 1 : Nat) : Int) = a + 1 + (t : Int) + 1 by omega]
    simp
  · rw [e, List.flatMap_append]; simpa [EnV.cells] using hown
theorem rnJ_end {cs : List ByteArray} {ws : List PutD} {a : Int} {wz wr : World} {t : Nat} {js : List Nat} {vs : List EnV} {A : Option Addr} {c : Nat} (h : RnJ cs ws a wz t js vs A c wr) (hf : ff (lgN cs ws) 2 (cs.length - 2) (a + 1 + (t : Int)) = none) : js = scnC cs ws a := by
  have := h.all
  rw [chn_none hf, List.append_nil] at this
  exact this
theorem chn_le {g : Nat → Option Int} : ∀ (f i m : Nat) (n : Int), (chn g i m f n).length ≤ f
  | 0, _, _, _ => Nat.le_refl _
  | f + 1, i, m, n => by
    have := chn_le (g := g) f i m (n + 1)
    unfold chn
    split <;> simp <;> omega
theorem rnJ_len {cs : List ByteArray} {ws : List PutD} {a : Int} {wz wr : World} {t : Nat} {js : List Nat} {vs : List EnV} {A : Option Addr} {c : Nat} (h : RnJ cs ws a wz t js vs A c wr) (ha : 0 ≤ a ∧ a ≤ 2147483647) : vs.length ≤ 4294967296 := by
  have h1 := ens_len h.ens
  have h2 := congrArg List.length h.all
  rw [List.length_append] at h2
  have h3 := chn_le (g := lgN cs ws) (scnM cs ws a - a).toNat 2 (cs.length - 2) (a + 1)
  have h4 := scnM_bd (cs := cs) (ws := ws) (a := a) (by omega)
  unfold scnC at h2
  omega
end Go.Proofs.Ytjmgocfoimhmjaa
