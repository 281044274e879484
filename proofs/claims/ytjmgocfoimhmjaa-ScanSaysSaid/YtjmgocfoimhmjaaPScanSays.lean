/- The statement of linenlaw.ScanSays, from its walk: for every input the law returns true and its arguments read afterwards as before. No condition of ours. -/
import Derived.Test.YtjmgocfoimhmjaaScJ
import Derived.Test.YtjmgocfoimhmjaaScF
import Derived.Test.YtjmgocfoimhmjaaTwo
import Derived.Test.YtjmgocfoimhmjaaDiskW
/- linenref.Scan: its loops' states. -/
namespace Go.Proofs.Ytjmgocfoimhmjaa
open Go.RowKit Go.Maps

/-- linenref.LogCell of the first two cells. -/
theorem rlog_low (A : Option Addr) (n c : Nat) (A' : Option Addr) (n' c' : Nat) (k : Nat) (w : World) (hk : k < 2) :
    Calls Try.prog 75 #[.agg #[.slice A n c, .slice A' n' c'], .int .i64 k] w fun e w' => e = .returned (.tuple #[.int .i64 0, .slice none 0 0, .bool false, .bool false]) ∧ Below w.heap.size w w' := by
  have i1 : (k : Int) < 2 := by omega
  have HB : Hid (Below w.heap.size w (w.alloc (.cells #[.slice A n c, .slice A' n' c'] 41))) := (Below.refl _ _).alloc (Nat.le_refl _) _
  go_enter Try.func75, Try.ntmps75
  go_wp2
  refine bodyPost_ret (results_ttt4 rfl _ _) rfl ?_
  exact ⟨rfl, HB.out⟩

/-- The first of a list of places that has the number. -/
def fl (g : Nat → Option Int) (x : Int) : List Nat → Option Nat
  | [] => none
  | j :: js => if g j = some x then some j else fl g x js
theorem fl_snoc {g : Nat → Option Int} {x : Int} {j : Nat} : ∀ js : List Nat, fl g x (js ++ [j]) = (fl g x js).or (if g j = some x then some j else none)
  | [] => by simp [fl]
  | i :: js => by
    have := fl_snoc (g := g) (x := x) (j := j) js
    simp only [List.cons_append, fl]
    split
    · rfl
    · exact this
/-- Each place has its number. -/
def NumsOk (g : Nat → Option Int) : List Nat → List Int → Prop
  | [], [] => True
  | j :: js, n :: ns => g j = some n ∧ NumsOk g js ns
  | _, _ => False
theorem nums_len {g : Nat → Option Int} : ∀ {js : List Nat} {ns : List Int}, NumsOk g js ns → js.length = ns.length
  | [], [], _ => rfl
  | _ :: _, _ :: _, h => by simp [nums_len h.2]
  | [], _ :: _, h => h.elim
  | _ :: _, [], h => h.elim
theorem nums_snoc {g : Nat → Option Int} {j : Nat} {n : Int} (hj : g j = some n) : ∀ {js : List Nat} {ns : List Int}, NumsOk g js ns → NumsOk g (js ++ [j]) (ns ++ [n])
  | [], [], _ => ⟨hj, trivial⟩
  | _ :: _, _ :: _, h => ⟨h.1, nums_snoc hj h.2⟩
  | [], _ :: _, h => h.elim
  | _ :: _, [], h => h.elim
theorem nums_none {g : Nat → Option Int} {x : Int} : ∀ {js : List Nat} {ns : List Int}, NumsOk g js ns → fl g x js = none → x ∉ ns
  | [], [], _, _ => by simp
  | j :: js, n :: ns, h, hf => by
    unfold fl at hf
    split at hf
    · cases hf
    · have := nums_none h.2 hf
      rw [List.mem_cons]
      rintro (e | e)
      · subst e; exact absurd h.1 (by assumption)
      · exact this e
  | [], _ :: _, h, _ => h.elim
  | _ :: _, [], h, _ => h.elim
theorem nums_some {g : Nat → Option Int} {x : Int} {j : Nat} : ∀ {js : List Nat} {ns : List Int}, NumsOk g js ns → fl g x js = some j → ∃ p : Nat, js[p]? = some j ∧ ns[p]? = some x ∧ ∀ q, q < p → ns[q]? ≠ some x
  | [], [], _, hf => by cases hf
  | i :: js, n :: ns, h, hf => by
    unfold fl at hf
    split at hf
    · rename_i e
      injection hf with hf
      subst hf
      have : n = x := by have := h.1.symm.trans e; injection this
      subst this
      exact ⟨0, rfl, rfl, fun q hq => absurd hq (Nat.not_lt_zero q)⟩
    · rename_i e
      obtain ⟨p, h1, h2, h3⟩ := nums_some h.2 hf
      refine ⟨p + 1, by simpa using h1, by simpa using h2, fun q hq => ?_⟩
      cases q with
      | zero => simp only [List.getElem?_cons_zero]; intro hh; injection hh with hh; subst hh; exact e h.1
      | succ q => simpa using h3 q (by omega)
  | [], _ :: _, h, _ => h.elim
  | _ :: _, [], h, _ => h.elim
theorem ix_at {g : Nat → Option Int} {js : List Nat} {ns : List Int} {x i : Int} {j : Nat} (h : NumsOk g js ns) (hf : fl g x js = some j) (hi : IxIs ns x i) : ∃ p : Nat, i = (p : Int) ∧ js[p]? = some j := by
  obtain ⟨p, h1, h2, h3⟩ := nums_some h hf
  rcases hi with ⟨q, rfl, k2, k3⟩ | ⟨_, k⟩
  · have : p = q := by
      rcases Nat.lt_trichotomy p q with hlt | he | hgt
      · exact absurd h2 (k3 p hlt)
      · exact he
      · exact absurd k2 (h3 q hgt)
    subst this
    exact ⟨p, rfl, h1⟩
  · exact absurd (List.mem_of_getElem? h2) k

theorem ix_eq {ns : List Int} {x i : Int} {p : Nat} (hi : IxIs ns x i) (h2 : ns[p]? = some x) (h3 : ∀ q, q < p → ns[q]? ≠ some x) : i = (p : Int) := by
  rcases hi with ⟨q, rfl, k2, k3⟩ | ⟨_, k⟩
  · rcases Nat.lt_trichotomy p q with hlt | he | hgt
    · exact absurd h2 (k3 p hlt)
    · rw [he]
    · exact absurd k2 (h3 q hgt)
  · exact absurd (List.mem_of_getElem? h2) k
theorem one3 (i : Int) (A : Option Addr) (n c : Nat) (b : Bool) : ∀ u ∈ (#[.int .i64 i, .slice A n c, .bool b] : Array Value).toList, u.oneCell' = true := by simp [Value.oneCell']
/-- The entry's list lies elsewhere than in block g. -/
def Far (W : World) (g : Option Nat) (v : EnV) : Prop := v.n = 0 ∨ ∃ b o, v.A = some ⟨b, o, none⟩ ∧ b < W.heap.size ∧ some b ≠ g
theorem Far.size {W W' : World} {g : Option Nat} {v : EnV} (h : Far W g v) (hs : W.heap.size ≤ W'.heap.size) : Far W' g v := by
  rcases h with h | ⟨b, o, h1, h2, h3⟩
  · exact .inl h
  · exact .inr ⟨b, o, h1, by omega, h3⟩
theorem Far.grow {W W' : World} {g g' : Option Nat} {v : EnV} (h : Far W g v) (hs : W.heap.size ≤ W'.heap.size) (hg : g' = g ∨ ∀ k, g' = some k → W.heap.size ≤ k) : Far W' g' v := by
  rcases h with h | ⟨b, o, h1, h2, h3⟩
  · exact .inl h
  · refine .inr ⟨b, o, h1, by omega, ?_⟩
    rcases hg with rfl | hg
    · exact h3
    · intro e; have := hg b e.symm; omega
theorem Far.new {W W' : World} {g : Option Nat} {v : EnV} {α : Type} {enc : α → List Value} {k : Nat} {xs : List α} (hr : RowsIn W' W'.heap.size v.A v.n v.c enc k xs) (hf : ∀ a, v.A = some a → W.heap.size ≤ a.block) (hg : ∀ b, g = some b → b < W.heap.size) : Far W' g v := by
  cases xs with
  | nil => exact .inl hr.len.symm
  | cons x xs =>
    obtain ⟨b, o, h1, h2, _⟩ := hr.at_ 0 x rfl
    refine .inr ⟨b, o, h1, h2, fun e => ?_⟩
    have q1 := hf _ h1
    have q2 := hg b e.symm
    simp only at q1
    omega
theorem EnOk.left {cs : List ByteArray} {ws : List PutD} {W W' : World} {j base : Nat} {g : Option Nat} {v : EnV} (h : EnOk cs ws W W.heap.size j v) (hf : Far W g v) (hl : Left W W' base g) : EnOk cs ws W' W'.heap.size j v := by
  refine ⟨h.at_, h.last, ?_⟩
  refine ⟨h.rows.len, h.rows.le, h.rows.top, fun i x hx => ?_⟩
  obtain ⟨b, o, e, hb, hc⟩ := h.rows.at_ i x hx
  refine ⟨b, o, e, Nat.lt_of_lt_of_le hb hl.size, fun k u hu => hl.cell (hc k u hu) ?_⟩
  rcases hf with hf | ⟨b2, o2, h1, h2, h3⟩
  · have := (List.getElem?_eq_some_iff.1 hx).1
    rw [h.rows.len, hf] at this; omega
  · rw [h1] at e; injection e with e; injection e with e
    subst e
    exact fun e => h3 e.symm
theorem ens_left {cs : List ByteArray} {ws : List PutD} {W W' : World} {base : Nat} {g : Option Nat} (hl : Left W W' base g) : ∀ {js : List Nat} {vs : List EnV}, (∀ v ∈ vs, Far W g v) → EnsOk cs ws W W.heap.size js vs → EnsOk cs ws W' W'.heap.size js vs
  | [], [], _, _ => trivial
  | _ :: _, v :: _, hf, h => ⟨h.1.left (hf v (List.mem_cons_self ..)) hl, ens_left hl (fun u hu => hf u (List.mem_cons_of_mem _ hu)) h.2⟩
  | [], _ :: _, _, h => h.elim
  | _ :: _, [], _, h => h.elim

/-- linenref.Scan's first loop: the cells ahead of i are done. -/
structure SfI (cs : List ByteArray) (ws : List PutD) (a : Int) (wq : World) (i : Nat) (js : List Nat) (ns : List Int) (vs : List EnV) (m : Int) (A : Option Addr) (c : Nat) (A' : Option Addr) (c' : Nat) (wr : World) : Prop where
  low : i < 2 → js = [] ∧ m = a
  find : ∀ x, 2 ≤ i → ff (lgN cs ws) 2 (cs.length - 2) x = (fl (lgN cs ws) x js).or (ff (lgN cs ws) i (cs.length - i) x)
  most : 2 ≤ i → scnM cs ws a = max m (mo (lgN cs ws) a i (cs.length - i))
  least : a ≤ m
  nums : NumsOk (lgN cs ws) js ns
  ens : EnsOk cs ws wr wr.heap.size js vs
  own : Owns wr wq.heap.size 3 (.slice A vs.length c) vs.length (vs.flatMap EnV.cells)
  own' : Owns wr wq.heap.size 1 (.slice A' ns.length c') ns.length (ns.map (Value.int .i64))
  apart : Apart (.slice A vs.length c) (.slice A' ns.length c')
  far : ∀ v ∈ vs, Far wr (Value.ownBlock (.slice A vs.length c)) v
  far' : ∀ v ∈ vs, Far wr (Value.ownBlock (.slice A' ns.length c')) v
  below : Below wq.heap.size wq wr
  few : js.length ≤ i
section
variable {cs : List ByteArray} {ws : List PutD} {a m : Int} {wq wr w1 : World} {i c c' : Nat} {js : List Nat} {ns : List Int} {vs : List EnV} {A A' : Option Addr}
theorem sf_start : SfI cs ws a wq 0 [] [] [] a none 0 none 0 wq :=
  { low := fun _ => ⟨rfl, rfl⟩, find := fun _ h => by omega, most := fun h => by omega, least := Int.le_refl _, nums := trivial, ens := trivial, own := Owns.nil _ _ _, own' := Owns.nil _ _ _, apart := Apart.nil _ _ _, far := fun v h => by simp at h, far' := fun v h => by simp at h, below := Below.refl _ _, few := Nat.le_refl _ }
theorem sf_below (h : SfI cs ws a wq i js ns vs m A c A' c' wr) (hb : Below wr.heap.size wr w1) {k : Nat} (hk : i ≤ k) (h1 : k < 2 → js = [] ∧ m = a) (h2 : ∀ x, 2 ≤ k → ff (lgN cs ws) 2 (cs.length - 2) x = (fl (lgN cs ws) x js).or (ff (lgN cs ws) k (cs.length - k) x)) (h3 : 2 ≤ k → scnM cs ws a = max m (mo (lgN cs ws) a k (cs.length - k))) : SfI cs ws a wq k js ns vs m A c A' c' w1 :=
  { low := h1, find := h2, most := h3, least := h.least, nums := h.nums, ens := ens_keep hb.size hb h.ens, own := h.own.fresh_below hb, own' := h.own'.fresh_below hb, apart := h.apart, far := fun v hv => (h.far v hv).size hb.size, far' := fun v hv => (h.far' v hv).size hb.size, below := h.below.trans (hb.mono h.below.size), few := Nat.le_trans h.few hk }
theorem sf_low (h : SfI cs ws a wq i js ns vs m A c A' c' wr) (hi : i < 2) (hb : Below wr.heap.size wr w1) : SfI cs ws a wq (i + 1) js ns vs m A c A' c' w1 := by
  obtain ⟨e1, e2⟩ := h.low hi
  refine sf_below h hb (by omega) (fun _ => ⟨e1, e2⟩) (fun x hx => ?_) (fun hx => ?_)
  · obtain rfl : i = 1 := by omega
    rw [e1]; simp [fl]
  · obtain rfl : i = 1 := by omega
    rw [e2]
    have := mo_low (g := lgN cs ws) (a := a) (cs.length - 2) 2
    unfold scnM
    show _ = max a (mo (lgN cs ws) a 2 (cs.length - 2))
    omega
theorem sf_no (h : SfI cs ws a wq i js ns vs m A c A' c' wr) (hi : 2 ≤ i) (hl : i < cs.length) (ho : scO (nowS cs ws i) = false) (hb : Below wr.heap.size wr w1) : SfI cs ws a wq (i + 1) js ns vs m A c A' c' w1 := by
  have e : cs.length - i = (cs.length - (i + 1)) + 1 := by omega
  refine sf_below h hb (by omega) (fun hx => by omega) (fun x _ => ?_) (fun _ => ?_)
  · rw [h.find x hi, e, ff_miss (by rw [lgN_no ho]; intro h; cases h)]
  · rw [h.most hi, e, mo_none (lgN_no ho)]
theorem sf_yes {w5 w6 : World} {q d c5 c6 : Nat} {A2 A5 A6 : Option Addr} (h : SfI cs ws a wq i js ns vs m A c A' c' wr) (hi : 2 ≤ i) (hl : i < cs.length) (ho : scO (nowS cs ws i) = true) (hb : Below wr.heap.size wr w1)
    (hr : RowsIn w1 w1.heap.size A2 q d BlobD.cells 4 (scL (nowS cs ws i))) (hf : ∀ p, A2 = some p → wr.heap.size ≤ p.block)
    (hl5 : Left w1 w5 wq.heap.size (Value.ownBlock (.slice A vs.length c))) (ho5 : Owns w5 wq.heap.size 3 (.slice A5 (vs.length + 1) c5) (vs.length + 1) (vs.flatMap EnV.cells ++ [.int .i64 i, .slice A2 q d, .bool (scB (nowS cs ws i))]))
    (hn5 : Value.ownBlock (.slice A5 (vs.length + 1) c5) = Value.ownBlock (.slice A vs.length c) ∨ ∀ k, Value.ownBlock (.slice A5 (vs.length + 1) c5) = some k → w1.heap.size ≤ k)
    (hl6 : Left w5 w6 wq.heap.size (Value.ownBlock (.slice A' ns.length c'))) (ho6 : Owns w6 wq.heap.size 1 (.slice A6 (ns.length + 1) c6) (ns.length + 1) (ns.map (Value.int .i64) ++ [.int .i64 (scN (nowS cs ws i))]))
    (hn6 : Value.ownBlock (.slice A6 (ns.length + 1) c6) = Value.ownBlock (.slice A' ns.length c') ∨ ∀ k, Value.ownBlock (.slice A6 (ns.length + 1) c6) = some k → w5.heap.size ≤ k) :
    SfI cs ws a wq (i + 1) (js ++ [i]) (ns ++ [scN (nowS cs ws i)]) (vs ++ [⟨(i : Int), A2, q, d, scB (nowS cs ws i)⟩]) (if m < scN (nowS cs ws i) then scN (nowS cs ws i) else m) A5 c5 A6 c6 w6 ∧
      (vs ++ [(⟨(i : Int), A2, q, d, scB (nowS cs ws i)⟩ : EnV)]).length = vs.length + 1 ∧ (ns ++ [scN (nowS cs ws i)]).length = ns.length + 1 := by
  have e : cs.length - i = (cs.length - (i + 1)) + 1 := by omega
  have ev : (vs ++ [(⟨(i : Int), A2, q, d, scB (nowS cs ws i)⟩ : EnV)]).length = vs.length + 1 := by simp
  have en : (ns ++ [scN (nowS cs ws i)]).length = ns.length + 1 := by simp
  obtain ⟨v, hv⟩ : ∃ v : EnV, v = ⟨(i : Int), A2, q, d, scB (nowS cs ws i)⟩ := ⟨_, rfl⟩
  have hok : EnOk cs ws w1 w1.heap.size i v := by rw [hv]; exact ⟨rfl, rfl, hr⟩
  have hbl : ∀ b, Value.ownBlock (.slice A vs.length c) = some b → b < wr.heap.size := fun b hb => (h.own.lt b hb).2
  have hbl' : ∀ b, Value.ownBlock (.slice A' ns.length c') = some b → b < wr.heap.size := fun b hb => (h.own'.lt b hb).2
  have f1 : Far w1 (Value.ownBlock (.slice A vs.length c)) v := by rw [hv]; exact Far.new (v := ⟨(i : Int), A2, q, d, scB (nowS cs ws i)⟩) hr hf hbl
  have f2 : Far w1 (Value.ownBlock (.slice A' ns.length c')) v := by rw [hv]; exact Far.new (v := ⟨(i : Int), A2, q, d, scB (nowS cs ws i)⟩) hr hf hbl'
  have en1 : EnsOk cs ws w1 w1.heap.size (js ++ [i]) (vs ++ [v]) := ens_snoc hok (ens_keep hb.size hb h.ens)
  have fa : ∀ u ∈ vs ++ [v], Far w1 (Value.ownBlock (.slice A vs.length c)) u := fun u hu => by
    rcases List.mem_append.1 hu with hu | hu
    · exact (h.far u hu).size hb.size
    · obtain rfl := List.mem_singleton.1 hu; exact f1
  have fb : ∀ u ∈ vs ++ [v], Far w1 (Value.ownBlock (.slice A' ns.length c')) u := fun u hu => by
    rcases List.mem_append.1 hu with hu | hu
    · exact (h.far' u hu).size hb.size
    · obtain rfl := List.mem_singleton.1 hu; exact f2
  have en5 := ens_left hl5 fa en1
  have fb5 : ∀ u ∈ vs ++ [v], Far w5 (Value.ownBlock (.slice A' ns.length c')) u := fun u hu => (fb u hu).size hl5.size
  have en6 := ens_left hl6 fb5 en5
  have fa5 : ∀ u ∈ vs ++ [v], Far w5 (Value.ownBlock (.slice A5 (vs.length + 1) c5)) u := fun u hu => (fa u hu).grow hl5.size hn5
  have ap5 : Apart (.slice A5 (vs.length + 1) c5) (.slice A' ns.length c') := h.apart.grow (N := w1.heap.size) hn5 (fun g hg => Nat.lt_of_lt_of_le (hbl' g hg) hb.size)
  have ap6 : Apart (.slice A5 (vs.length + 1) c5) (.slice A6 (ns.length + 1) c6) := (ap5.symm.grow (N := w5.heap.size) hn6 (fun g hg => (ho5.lt g hg).2)).symm
  rw [← hv] at ev
  refine ⟨?_, by rw [← hv]; exact ev, en⟩
  rw [← hv]
  refine { low := fun hx => by omega, find := fun x _ => ?_, most := fun _ => ?_, least := ?_, nums := nums_snoc (lgN_yes ho) h.nums, ens := en6, own := ?_, own' := ?_, apart := ?_, far := ?_, far' := ?_, below := ?_, few := ?_ }
  · rw [h.find x hi, fl_snoc, e]
    simp only [ff]
    cases fl (lgN cs ws) x js with
    | some k => simp
    | none =>
      split <;> simp
  · rw [h.most hi, e, mo_some (lgN_yes ho)]
    split <;> omega
  · have := h.least; split <;> omega
  · rw [ev, List.flatMap_append]
    have := ho5.left hl6 ap5.symm.other
    rw [hv]
    simpa [EnV.cells] using this
  · rw [en, List.map_append]; exact ho6
  · rw [ev, en]; exact ap6
  · rw [ev]; exact fun u hu => (fa5 u hu).size hl6.size
  · rw [en]; exact fun u hu => (fb5 u hu).grow hl6.size hn6
  · exact hl6.below (Nat.le_refl _) (hl5.below (Nat.le_refl _) (h.below.trans (hb.mono h.below.size)))
  · rw [List.length_append]; have := h.few; simp; omega
theorem sf_end (h : SfI cs ws a wq cs.length js ns vs m A c A' c' wr) : (∀ x, ff (lgN cs ws) 2 (cs.length - 2) x = fl (lgN cs ws) x js) ∧ scnM cs ws a = m := by
  by_cases h2 : 2 ≤ cs.length
  · refine ⟨fun x => ?_, ?_⟩
    · rw [h.find x h2, Nat.sub_self]; simp [ff]
    · rw [h.most h2, Nat.sub_self]
      have := h.least
      simp only [mo]; omega
  · obtain ⟨e1, e2⟩ := h.low (by omega)
    refine ⟨fun x => ?_, ?_⟩
    · rw [e1, show cs.length - 2 = 0 by omega]; rfl
    · rw [e2]; unfold scnM; rw [show cs.length - 2 = 0 by omega]; rfl
end
end Go.Proofs.Ytjmgocfoimhmjaa

/- linenref.Scan, walked. -/
namespace Go.Proofs.Ytjmgocfoimhmjaa
open Go.RowKit Go.Maps

theorem info_i64s : (Try.prog.info? 3).map (fun i => (i.zero, i.size, i.bytes)) = some (some (.int .i64 0), 1, 8) := by kernel_rfl
theorem own_intsS {w : World} {base n c : Nat} {A : Option Addr} {xs : List Int} (h : Owns w base 1 (.slice A n c) n (xs.map (Value.int .i64))) : RowsIn w w.heap.size A n c (fun z => [.int .i64 z]) 1 xs := by
  have h' : Owns w base 1 (.slice A n c) n (xs.flatMap (fun z => [Value.int .i64 z])) := by rw [← List.map_eq_flatMap]; exact h
  exact h'.rows (enc := fun z => [.int .i64 z]) (k := 1) (fun _ => rfl) (by decide)

def sliceLenS : Value → Nat
  | .slice _ n _ => n
  | _ => 0
set_option maxRecDepth 20000 in
set_option maxHeartbeats 4000000 in
theorem scan_any (A : Option Addr) (n c : Nat) (cs : List ByteArray) (A' : Option Addr) (n' c' : Nat) (ws : List PutD) (a : Int) (w : World) (r : RowsIn w w.heap.size A n c (fun z => [.string z]) 1 cs) (r' : RowsIn w w.heap.size A' n' c' PutD.cells 2 ws) :
    Calls Try.prog 46 #[.agg #[.slice A n c, .slice A' n' c'], .int .i64 a] w (RunPost cs ws a w) := by
  have hlen := r.len
  subst hlen
  have hlen' := r'.len
  subst hlen'
  obtain ⟨wa, hwa⟩ : ∃ wa, wa = w.alloc (.cells #[.slice A cs.length c, .slice A' ws.length c'] 41) := ⟨_, rfl⟩
  have hba : Below w.heap.size w wa := by rw [hwa]; exact (Below.refl _ _).alloc (Nat.le_refl _) _
  have hrb : wa.heap[w.heap.size]? = some (.cells #[.slice A cs.length c, .slice A' ws.length c'] 41 (0, 0)) := by rw [hwa]; exact heap_alloc_new w _
  have hle := hba.size
  have RA := Lib.hid ((r.below hba).more hle)
  have RA' := Lib.hid ((r'.below hba).more hle)
  have HCk := Lib.hid (dskr_any A cs.length c cs A' ws.length c' ws wa RA.out RA'.out)
  have HC : Hid (∀ W, Below wa.heap.size wa W → W.cell? ⟨w.heap.size, 0, none⟩ = some (.slice A cs.length c) ∧ W.cell? ⟨w.heap.size, 1, none⟩ = some (.slice A' ws.length c')) := fun W h => by
    have q0 := row_below hrb (row_lt hrb) h
    exact ⟨row_cell q0 0, row_cell q0 1⟩
  have c0 : wa.cell? ⟨w.heap.size, 0, none⟩ = some (.slice A cs.length c) := row_cell hrb 0
  have c1 : wa.cell? ⟨w.heap.size, 1, none⟩ = some (.slice A' ws.length c') := row_cell hrb 1
  have HWA := Lib.hid hwa
  have HBA := Lib.hid hba
  clear r r' hwa hba hrb hle
  by_cases hd : dskE cs ws = 0
  · rw [hd] at HCk
    by_cases ha : a < 0 ∨ 2147483647 < a
    · have F := Lib.hid (scnE_arg hd ha)
      have HD := Lib.hid hd
      clear hd
      rcases ha with ha | ha
      · go_enter Try.func46, Try.ntmps46
        go_wp2_with (go_at_call 26; rw [← HWA.out]; refine HCk.out.mono ?_; rintro e w1 ⟨rfl, hb1⟩)
        go_ret3
        exact .inl ⟨by rw [F.out]; decide, by rw [F.out]; rfl, HBA.out.trans (hb1.mono HBA.out.size)⟩
      · have ha' : ¬ a < 0 := by omega
        go_enter Try.func46, Try.ntmps46
        go_wp2_with (go_at_call 26; rw [← HWA.out]; refine HCk.out.mono ?_; rintro e w1 ⟨rfl, hb1⟩)
        go_ret3
        exact .inl ⟨by rw [F.out]; decide, by rw [F.out]; rfl, HBA.out.trans (hb1.mono HBA.out.size)⟩
    · have F := Lib.hid (scnE_ok hd ha)
      have HDZ := Lib.hid (dsk_zero hd)
      have ha0 : 0 ≤ a := by omega
      have ha1 : a ≤ 2147483647 := by omega
      have hcl : (cs.length : Int) ≤ 128 := by have := HDZ.out.2.1; omega
      clear hd ha
      go_enter Try.func46, Try.ntmps46
      go_wp2_with (go_at_call 26; rw [← HWA.out]; refine HCk.out.mono ?_; rintro e w1 ⟨rfl, hb1⟩; have HB1 := Lib.hid hb1; obtain ⟨k0, k1⟩ := HC.out _ hb1; clear hb1)
      have I0 : Hid (SfI cs ws a w1 0 [] [] [] a none 0 none 0 w1) := sf_start
      have HN : Hid (∀ (W : World) (k : Nat), Below w1.heap.size w1 W → k < cs.length → 2 ≤ k → Calls Try.prog 75 #[.agg #[.slice A cs.length c, .slice A' ws.length c'], .int .i64 k] W (ScfPost (nowS cs ws k) W)) := fun W k h hk hk2 => by
        have hb := HB1.out.trans (h.mono HB1.out.size)
        exact rlogf_any A _ c cs A' _ c' ws k W ((RA.out.below hb).more hb.size) ((RA'.out.below hb).more hb.size) hk HDZ.out.2.2.2.2 hk2
      unfold ScfPost at HN
      clear k0 k1 c0 c1 HCk RA RA'
      go_loopw [8, 9, 10, 33] (fun v8 v9 v10 v33 wr => ∃ (i : Nat) (js : List Nat) (ns : List Int) (vs : List EnV) (m : Int) (A : Option Addr) (c : Nat) (A' : Option Addr) (c' : Nat), i ≤ cs.length ∧ v33 = .int .i64 i ∧ v8 = .slice A vs.length c ∧ v9 = .slice A' ns.length c' ∧ v10 = .int .i64 m ∧ Hid (SfI cs ws a w1 i js ns vs m A c A' c' wr)) (fun _ _ _ v33 _ => cs.length - (intOf v33).toNat)
      case atStart => exact ⟨0, [], [], [], a, none, 0, none, 0, Nat.zero_le _, rfl, rfl, rfl, rfl, I0.out⟩
      case round =>
        obtain ⟨i, js, ns, vs, m, A1, c1, A2, c2, hi, rfl, rfl, rfl, rfl, hP⟩ := hrel
        obtain ⟨wq, rfl⟩ : ∃ z : World, z = wr := ⟨_, rfl⟩
        clear I0
        by_cases hlt : i < cs.length
        · obtain ⟨k0, k1⟩ := HC.out wq (HB1.out.trans (hP.out.below.mono HB1.out.size))
          have j1 : (i : Int) < (cs.length : Int) := by omega
          by_cases h2 : i < 2
          · have HL := Lib.hid (rlog_low A cs.length c A' ws.length c' i wq h2)
            go_wp2_with (go_at_call 75; refine HL.out.mono ?_; rintro e w2 ⟨rfl, hb2⟩)
            have HF := Lib.hid (sf_low hP.out h2 hb2)
            go_roundw
            case rel => exact ⟨i + 1, js, ns, vs, m, A1, c1, A2, c2, by omega, by go_num, rfl, rfl, rfl, HF.out⟩
            case measure => (simp [intOf]; try omega)
          · have h2' : 2 ≤ i := by omega
            have HL := Lib.hid (HN.out wq i hP.out.below hlt h2')
            have H2 := Lib.hid h2'
            have HLT := Lib.hid hlt
            have hfw : (vs.length : Int) ≤ 128 ∧ (ns.length : Int) ≤ 128 := by have := hP.out.few; have := ens_len hP.out.ens; have := nums_len hP.out.nums; omega
            clear h2 h2'
            by_cases ho : scO (nowS cs ws i) = true
            · have HO := Lib.hid ho
              rw [ho] at HL
              have OV := Lib.hid hP.out.own
              have ON := Lib.hid hP.out.own'
              have HAP := Lib.hid hP.out.apart
              have HBW := Lib.hid hP.out.below
              have HYES := Lib.hid (fun w1' w5 w6 q d c5 c6 A2' A5 A6 h1 h2 h3 h4 h5 h6 h7 h8 h9 => @sf_yes cs ws a m w1 wq w1' i c1 c2 js ns vs A1 A2 w5 w6 q d c5 c6 A2' A5 A6 hP.out H2.out HLT.out HO.out h1 h2 h3 h4 h5 h6 h7 h8 h9)
              have G3 : Hid (vs.length + 1 ≤ maxLen ∧ (vs.length + 1) * 40 ≤ 140737488355328 ∧ ns.length + 1 ≤ maxLen ∧ (ns.length + 1) * 8 ≤ 140737488355328) := by unfold maxLen; simp only [Hid]; omega
              have G4 : Hid (0 < 3) := by simp [Hid]
              clear ho
              generalize hN : scN (nowS cs ws i) = N at *
              generalize hBB : scB (nowS cs ws i) = bb at *
              have HBB := Lib.hid hBB
              have HNN := Lib.hid hN
              clear hBB hN
              go_wp2_with (first
                | (go_at_call 75; refine HL.out.mono ?_; rintro e w2 ⟨A3, q, d, rfl, hr2, hb2, hf2⟩; have HR2 := Lib.hid hr2; have HF2 := Lib.hid hf2; have HB2 := Lib.hid hb2; have OV2 := Lib.hid (OV.out.fresh_below hb2); have HS2 : Hid (w1.heap.size ≤ w2.heap.size) := Nat.le_trans HBW.out.size hb2.size; have G2 : Hid (∀ u ∈ (#[.int .i64 i, .slice A3 q d, .bool bb] : Array Value).toList, u.oneCell' = true) := one3 _ _ _ _ _; clear hr2 hb2 hf2)
                | (at_builtin; refine wpList_add1 (size := 3) (bytes := 40) (base := w1.heap.size) (news := #[.int .i64 i, .slice A3 q d, .bool bb]) rfl rfl Try.underlying79 info_en rfl G4.out OV2.out rfl HS2.out rfl rfl rfl G2.out G3.out.1 G3.out.2.1 ?_; intro A5 c5 w5 hown5 hl5 hn5; have ON5 := Lib.hid ((ON.out.fresh_below HB2.out).apart hl5 HAP.out); have HS5 : Hid (w1.heap.size ≤ w5.heap.size) := Nat.le_trans HS2.out hl5.size)
                | (at_builtin; refine wpList_add1 (size := 1) (bytes := 8) (base := w1.heap.size) (news := #[.int .i64 N]) rfl rfl Try.underlying23 info_i64s rfl (Nat.le_refl 1) ON5.out rfl HS5.out rfl rfl rfl ?_ G3.out.2.2.1 G3.out.2.2.2 ?_; simp [Value.oneCell']; intro A6 c6 w6 hown6 hl6 hn6))
              obtain ⟨F5, e5, e6⟩ := HYES.out w2 w5 w6 q d c5 c6 A3 A5 A6 HB2.out HR2.out HF2.out hl5 hown5 hn5 hl6 hown6 hn6
              have HF := Lib.hid F5
              have HE := Lib.hid e5
              have HE2 := Lib.hid e6
              clear F5 e5 e6
              go_roundw
              case rel => exact ⟨i + 1, _, _, _, _, A5, c5, A6, c6, by omega, by go_num, by rw [HE.out], by rw [HE2.out], rfl, HF.out⟩
              case measure => (simp [intOf]; try omega)
            · have ho' : scO (nowS cs ws i) = false := by simpa using ho
              have HO := Lib.hid ho'
              rw [ho'] at HL
              have HNO := Lib.hid (fun w1' h1 => @sf_no cs ws a m w1 wq w1' i c1 c2 js ns vs A1 A2 hP.out H2.out HLT.out HO.out h1)
              clear ho ho'
              go_wp2_with (go_at_call 75; refine HL.out.mono ?_; rintro e w2 ⟨A3, q, d, rfl, hr2, hb2, hf2⟩; have HB2 := Lib.hid hb2; clear hr2 hb2 hf2)
              have HF := Lib.hid (HNO.out w2 HB2.out)
              go_roundw
              case rel => exact ⟨i + 1, js, ns, vs, m, A1, c1, A2, c2, by omega, by go_num, rfl, rfl, rfl, HF.out⟩
              case measure => (simp [intOf]; try omega)
        · obtain rfl : i = cs.length := by omega
          have j1 : ¬ (cs.length : Int) < (cs.length : Int) := by omega
          obtain ⟨e1, e2⟩ := sf_end hP.out
          subst e2
          have HFX := Lib.hid e1
          have HNU := Lib.hid hP.out.nums
          have HEN := Lib.hid hP.out.ens
          have HRV := Lib.hid (hP.out.own.rows (enc := EnV.cells) (k := 3) (fun _ => rfl) (by decide))
          have HRN := Lib.hid (own_intsS hP.out.own')
          have hvt : (vs.length : Int) ≤ 128 := by have := hP.out.few; have := ens_len hP.out.ens; omega
          have HB0 : Hid (Below w.heap.size w wq) := HBA.out.trans ((HB1.out.trans (hP.out.below.mono HB1.out.size)).mono HBA.out.size)
          have HMB := Lib.hid (scnM_bd (cs := cs) (ws := ws) (a := a) (by omega))
          clear e1 hP HN HC hi hlt
          have J0 := Lib.hid (rnJ_start cs ws a wq)
          go_wp2
          go_loopw [16, 17] (fun v16 v17 wr => ∃ (t : Nat) (js : List Nat) (vs : List EnV) (A : Option Addr) (c : Nat), Hid (t ≤ 4294967296) ∧ v17 = .int .i64 (a + 1 + (t : Int)) ∧ v16 = .slice A vs.length c ∧ Hid (RnJ cs ws a wq t js vs A c wr)) (fun _ v17 _ => (4294967298 + a - intOf v17).toNat)
          case atStart => exact ⟨0, [], [], none, 0, Nat.zero_le _, by go_num, rfl, J0.out⟩
          case round =>
            obtain ⟨t, js', vs', A3, c3, ht, rfl, rfl, hJ⟩ := hrel
            obtain ⟨wz, rfl⟩ : ∃ z : World, z = wr := ⟨_, rfl⟩
            clear J0
            have HT := Lib.hid (hJ.out.top)
            have ht1 : (t : Int) ≤ 4294967296 := by have := ht.out; omega
            have hvl : (vs'.length : Int) ≤ 4294967296 := by have := rnJ_len hJ.out ⟨ha0, ha1⟩; omega
            have HJL := Lib.hid (ens_len hJ.out.ens)
            have HRZ := Lib.hid (HRN.out.below hJ.out.below)
            have HBZ := Lib.hid hJ.out.below
            cases hff : ff (lgN cs ws) 2 (cs.length - 2) (a + 1 + (t : Int)) with
            | none =>
              have HX : Hid ((a + 1 + (t : Int)) ∉ ns) := nums_none HNU.out (by rw [← HFX.out]; exact hff)
              have HCN := Lib.hid (contains_no A2 ns.length c2 ns (a + 1 + (t : Int)) _ wz HRZ.out HX.out)
              have HE := Lib.hid (rnJ_end hJ.out hff)
              have hrw := Lib.hid (hJ.out.own.rows (enc := EnV.cells) (k := 3) (fun _ => rfl) (by decide))
              have HEN' := Lib.hid (ens_keep HBZ.out.size HBZ.out hJ.out.ens)
              clear hff hJ
              have K0 : Hid (stp (lgB cs ws) (js'.take vs'.length) = scnL cs ws a) := by simp only [Hid, scnL]; rw [← HJL.out, List.take_length, HE.out]
              have hc3 : (vs'.length : Int) ≤ (c3 : Int) := by have := hrw.out.le; omega
              have hc4 := Lib.hid hrw.out.top
              go_wp2_with (go_at_call 80; refine HCN.out.mono ?_; rintro e w' ⟨rfl, rfl⟩)
              go_loop [16] (fun v16 => ∃ u : Nat, u ≤ vs'.length ∧ v16 = .slice A3 u c3 ∧ Hid (stp (lgB cs ws) (js'.take u) = scnL cs ws a)) (fun v16 => sliceLenS v16)
              case atStart => exact ⟨vs'.length, Nat.le_refl _, rfl, K0.out⟩
              case round =>
                obtain ⟨u, hu, rfl, HK⟩ := hrel
                have hbf : Hid (Below w.heap.size w w') := HB0.out.trans (HBZ.out.mono HB0.out.size)
                have HPOST : Hid (js'.take u = scnL cs ws a → RunPost cs ws a w (.returned (.tuple #[.slice A3 u c3, .int .i64 (scnM cs ws a), .int .i64 0])) w') := fun h =>
                  .inr ⟨F.out, ⟨A3, u, c3, vs'.take u, rfl, rows_pre hrw.out hu (by omega) hc4.out, by rw [← h]; exact ens_take u HEN'.out⟩, hbf.out⟩
                rcases Nat.eq_zero_or_pos u with h0 | h0
                · subst h0
                  have F2 := Lib.hid (HPOST.out (by rw [← HK.out, List.take_zero]; rfl))
                  go_wp2
                  go_ret3
                  exact F2.out
                · obtain ⟨p, rfl⟩ : ∃ p, u = p + 1 := ⟨u - 1, by omega⟩
                  obtain ⟨j, ej⟩ : ∃ j, js'[p]? = some j := ⟨_, List.getElem?_eq_getElem (show p < js'.length by have := HJL.out; omega)⟩
                  obtain ⟨v, g1, k1⟩ := ens_get HEN'.out ej
                  obtain ⟨b, o, rfl, hbB, p0, p1, p2⟩ := enCells hrw.out g1
                  have et : js'.take (p + 1) = js'.take p ++ [j] := by
                    obtain ⟨hp, rfl⟩ := List.getElem?_eq_some_iff.1 ej
                    rw [List.take_succ_eq_append_getElem hp]
                  have HET := Lib.hid et
                  have hlast : Hid (v.b = lgB cs ws j) := k1.last
                  obtain ⟨vi, vA, vn, vc, vb⟩ := v
                  simp only at p0 p1 p2 hlast
                  have q1 : (p : Int) + 1 ≤ (vs'.length : Int) := by omega
                  have q2 : (0 : Int) < (p : Int) + 1 := by omega
                  clear ej g1 k1 et p0 p1
                  cases vb
                  · have HK2 : Hid (stp (lgB cs ws) (js'.take p) = scnL cs ws a) := by simp only [Hid]; rw [← HK.out, HET.out, stp_no hlast.out.symm]
                    go_wp2
                    go_round
                    case rel => exact ⟨p, by omega, by go_num, HK2.out⟩
                    case measure => (simp [sliceLenS]; try omega)
                  · have F2 := Lib.hid (HPOST.out (by rw [← HK.out, HET.out, stp_yes hlast.out.symm]))
                    go_wp2
                    go_ret3
                    exact F2.out
            | some j =>
              obtain ⟨p, g0, g1, g2⟩ := nums_some HNU.out ((HFX.out _).symm.trans hff)
              obtain ⟨v, g3, hok⟩ := ens_get HEN.out g0
              have HCN := Lib.hid (contains_yes A2 ns.length c2 ns (a + 1 + (t : Int)) _ wz HRZ.out (List.mem_of_getElem? g1))
              have HIX : Hid (Calls Try.prog 81 #[.slice A2 ns.length c2, .int .i64 (a + 1 + (t : Int))] wz fun e w' => e = .returned (.int .i64 (p : Int)) ∧ w' = wz) :=
                (index_any A2 ns.length c2 ns (a + 1 + (t : Int)) _ wz HRZ.out).mono fun e w' ⟨⟨i, h, hi⟩, hw⟩ => ⟨by rw [h, ix_eq hi g1 g2], hw⟩
              obtain ⟨b, o, rfl, hbB, p0, p1, p2⟩ := enCells (HRV.out.below HBZ.out) g3
              have hpl : (p : Int) < (vs.length : Int) := by have := (List.getElem?_eq_some_iff.1 g3).1; omega
              have HOK := Lib.hid hok
              have HFF := Lib.hid hff
              have HLT := Lib.hid (rnJ_lt hff)
              have OW := Lib.hid hJ.out.own
              obtain ⟨vi, vA, vn, vc, vb⟩ := v
              simp only at p0 p1 p2
              have G2 : Hid (∀ u ∈ (#[.int .i64 vi, .slice vA vn vc, .bool vb] : Array Value).toList, u.oneCell' = true) := by simp [Hid, Value.oneCell']
              have G3 : Hid (vs'.length + 1 ≤ maxLen ∧ (vs'.length + 1) * 40 ≤ 140737488355328) := by unfold maxLen; simp only [Hid]; omega
              have G4 : Hid (0 < 3) := by simp [Hid]
              have HT5 : Hid (t + 1 ≤ 4294967296) := by have := HLT.out; have := HMB.out; simp only [Hid]; omega
              have HADD := Lib.hid (fun (w5 : World) (A4 : Option Addr) (c4 : Nat) (row : Option Nat) hl hown => @rnJ_add cs ws a wq wz wz w5 t j js' vs' A3 A4 c3 c4 ⟨vi, vA, vn, vc, vb⟩ row hJ.out HFF.out HOK.out HBZ.out hl hown)
              clear hff g0 g1 g2 g3 hok hJ
              go_wp2_with (first
                | (go_at_call 80; refine HCN.out.mono ?_; rintro e w' ⟨rfl, hw⟩; rw [hw]; clear hw)
                | (go_at_call 81; refine HIX.out.mono ?_; rintro e w' ⟨rfl, hw⟩; rw [hw]; clear hw)
                | (at_builtin; refine wpList_add1 (size := 3) (bytes := 40) (base := wq.heap.size) (news := #[.int .i64 vi, .slice vA vn vc, .bool vb]) rfl rfl Try.underlying79 info_en rfl G4.out OW.out rfl HBZ.out.size rfl rfl rfl G2.out G3.out.1 G3.out.2 ?_; intro A4 c4 w5 hown5 hl5 hn5))
              obtain ⟨F5, e5⟩ := HADD.out w5 A4 c4 _ hl5 hown5
              have HF := Lib.hid F5
              have HE := Lib.hid e5
              clear F5 e5
              go_roundw
              case rel => exact ⟨t + 1, js' ++ [j], _, A4, c4, HT5.out, val_int (by omega), by rw [HE.out], HF.out⟩
              case measure => (simp [intOf]; try omega)
  · have F := Lib.hid (scnE_dsk (a := a) hd)
    generalize hE : dskE cs ws = E at *
    have hE2 : (E != 0) = true := bne_iff_ne.2 hd
    have HD := Lib.hid hd
    clear hd hE
    go_enter Try.func46, Try.ntmps46
    go_wp2_with (go_at_call 26; rw [← HWA.out]; refine HCk.out.mono ?_; rintro e w1 ⟨rfl, hb1⟩)
    go_ret3
    exact .inl ⟨by rw [F.out]; exact HD.out, by rw [F.out]; rfl, HBA.out.trans (hb1.mono HBA.out.size)⟩
end Go.Proofs.Ytjmgocfoimhmjaa

/- scan.Run, walked. -/
namespace Go.Proofs.Ytjmgocfoimhmjaa
open Go.RowKit Go.Maps

set_option maxRecDepth 20000 in
set_option maxHeartbeats 4000000 in
theorem run_any (A : Option Addr) (n c : Nat) (cs : List ByteArray) (A' : Option Addr) (n' c' : Nat) (ws : List PutD) (a : Int) (w : World) (r : RowsIn w w.heap.size A n c (fun z => [.string z]) 1 cs) (r' : RowsIn w w.heap.size A' n' c' PutD.cells 2 ws) :
    Calls Try.prog 45 #[.agg #[.slice A n c, .slice A' n' c'], .int .i64 a] w (RunPost cs ws a w) := by
  have hlen := r.len
  subst hlen
  have hlen' := r'.len
  subst hlen'
  obtain ⟨wa, hwa⟩ : ∃ wa, wa = w.alloc (.cells #[.slice A cs.length c, .slice A' ws.length c'] 41) := ⟨_, rfl⟩
  have hba : Below w.heap.size w wa := by rw [hwa]; exact (Below.refl _ _).alloc (Nat.le_refl _) _
  have hrb : wa.heap[w.heap.size]? = some (.cells #[.slice A cs.length c, .slice A' ws.length c'] 41 (0, 0)) := by rw [hwa]; exact heap_alloc_new w _
  have hle := hba.size
  have RA := Lib.hid ((r.below hba).more hle)
  have RA' := Lib.hid ((r'.below hba).more hle)
  have HCk := Lib.hid (dchk_any A cs.length c cs A' ws.length c' ws wa RA.out RA'.out)
  have HC : Hid (∀ W, Below wa.heap.size wa W → W.cell? ⟨w.heap.size, 0, none⟩ = some (.slice A cs.length c) ∧ W.cell? ⟨w.heap.size, 1, none⟩ = some (.slice A' ws.length c')) := fun W h => by
    have q0 := row_below hrb (row_lt hrb) h
    exact ⟨row_cell q0 0, row_cell q0 1⟩
  have c0 : wa.cell? ⟨w.heap.size, 0, none⟩ = some (.slice A cs.length c) := row_cell hrb 0
  have c1 : wa.cell? ⟨w.heap.size, 1, none⟩ = some (.slice A' ws.length c') := row_cell hrb 1
  have HWA := Lib.hid hwa
  have HBA := Lib.hid hba
  clear r r' hwa hba hrb hle
  by_cases hd : dskE cs ws = 0
  · rw [hd] at HCk
    by_cases ha : a < 0 ∨ 2147483647 < a
    · have F := Lib.hid (scnE_arg hd ha)
      have HD := Lib.hid hd
      clear hd
      rcases ha with ha | ha
      · go_enter Try.func45, Try.ntmps45
        go_wp2_with (go_at_call 60; rw [← HWA.out]; refine HCk.out.mono ?_; rintro e w1 ⟨rfl, hb1⟩)
        go_ret3
        exact .inl ⟨by rw [F.out]; decide, by rw [F.out]; rfl, HBA.out.trans (hb1.mono HBA.out.size)⟩
      · have ha' : ¬ a < 0 := by omega
        go_enter Try.func45, Try.ntmps45
        go_wp2_with (go_at_call 60; rw [← HWA.out]; refine HCk.out.mono ?_; rintro e w1 ⟨rfl, hb1⟩)
        go_ret3
        exact .inl ⟨by rw [F.out]; decide, by rw [F.out]; rfl, HBA.out.trans (hb1.mono HBA.out.size)⟩
    · have F := Lib.hid (scnE_ok hd ha)
      have HD := Lib.hid hd
      have HDZ := Lib.hid (dsk_zero hd)
      have ha0 : 0 ≤ a := by omega
      have ha1 : a ≤ 2147483647 := by omega
      have hcl : (cs.length : Int) ≤ 128 := by have := HDZ.out.2.1; omega
      have hmm := @run_makeMap Try.prog
      clear hd ha
      go_enter Try.func45, Try.ntmps45
      go_wp2_with (go_at_call 60; rw [← HWA.out]; refine HCk.out.mono ?_; rintro e w1 ⟨rfl, hb1⟩; have HB1 := Lib.hid hb1; obtain ⟨k0, k1⟩ := HC.out _ (hb1.alloc hb1.size (.map #[] 0)); clear hb1)
      have I0 : Hid (RnI cs ws w1 cs.length (.map []) (fun _ => none) (w1.alloc (.map #[] 0))) :=
        { map := by rw [Nat.sub_self]; exact World.ownsMap_made _ _ _ _, is := mapIs_nil, fs := fun x => by rw [Nat.sub_self]; exact ⟨fun _ => rfl, fun j h => by cases h⟩, below := (Below.refl _ _).alloc (Nat.le_refl _) _, size := by simp }
      have HN : Hid (∀ (W : World) (k : Nat), Below w1.heap.size w1 W → k < cs.length → Calls Try.prog 79 #[.agg #[.slice A cs.length c, .slice A' ws.length c'], .int .i64 k] W (ScPost (nowS cs ws k) W)) := fun W k h hk => by
        have hb := HB1.out.trans (h.mono HB1.out.size)
        exact scell_any A _ c cs A' _ c' ws k W ((RA.out.below hb).more hb.size) ((RA'.out.below hb).more hb.size) hk HDZ.out.2.2.2.2
      unfold ScPost at HN
      clear k0 k1 c0 c1 hmm HCk RA RA'
      go_loopw [9, 10] (fun v9 v10 wr => ∃ (k : Nat) (i : Int) (D : DataW Value) (f : Int → Option EnV), k ≤ cs.length ∧ Hid (i + 1 = (k : Int) ∧ (2 ≤ k ∨ k = cs.length)) ∧ v10 = .int .i64 i ∧ v9 = .int .i64 (mo (lgN cs ws) a k (cs.length - k)) ∧ Hid (RnI cs ws w1 k D f wr)) (fun _ v10 _ => (intOf v10 + 1).toNat)
      case atStart => exact ⟨cs.length, (cs.length : Int) - 1, _, _, Nat.le_refl _, ⟨by omega, .inr rfl⟩, rfl, by rw [Nat.sub_self]; rfl, I0.out⟩
      case round =>
        obtain ⟨k, i, D, f, hk, HI, rfl, rfl, hP⟩ := hrel
        obtain ⟨wq, rfl⟩ : ∃ z : World, z = wr := ⟨_, rfl⟩
        clear I0
        by_cases h3 : 3 ≤ k
        · obtain ⟨j, rfl⟩ : ∃ j, k = j + 1 := ⟨k - 1, by omega⟩
          obtain rfl : i = (j : Int) := by have := HI.out.1; omega
          have j2 : (2 : Int) ≤ (j : Int) := by omega
          have j3 : (j : Int) ≤ 128 := by omega
          have HK := Lib.hid hk
          obtain ⟨k0, k1⟩ := HC.out wq (HB1.out.trans (hP.out.below.mono HB1.out.size))
          have HCj := Lib.hid (HN.out wq j hP.out.below (by omega))
          have hji : Hid ((j : Int) - 1 + 1 = (j : Int) ∧ (2 ≤ j ∨ j = cs.length)) := ⟨by omega, .inl (by omega)⟩
          clear h3 hk HI
          by_cases ho : scO (nowS cs ws j) = true
          · have HO := Lib.hid ho
            rw [ho] at HCj
            have HM : Hid (mo (lgN cs ws) a j (cs.length - j) = max (mo (lgN cs ws) a (j + 1) (cs.length - (j + 1))) (scN (nowS cs ws j))) := by
              have := HK.out
              simp only [Hid]
              rw [show cs.length - j = (cs.length - (j + 1)) + 1 by omega, mo_some (lgN_yes ho)]
            have hwf : (Lit.int .i64 (scN (nowS cs ws j))).wf = true := WalkArith.wf_i64 (by have := scN_bd (nowS cs ws j); omega)
            have HKF : Hid (keyOf Try.prog 3 (.int .i64 (scN (nowS cs ws j))) = some (.int .i64 (scN (nowS cs ws j)))) := keyOf_int_mk Try.underlying3 hwf
            have GM : Hid (cs.length - (j + 1) < maxLen) := by unfold maxLen; simp only [Hid]; omega
            have HYES := Lib.hid (fun w1' wm A q d h1 h2 h3 h4 => @rn_yes cs ws w1 wq w1' wm j D f A q d hP.out (Nat.lt_of_succ_le HK.out) HO.out h1 h2 h3 h4)
            clear ho hwf
            generalize hn : scN (nowS cs ws j) = N at *
            generalize hq : mo (lgN cs ws) a (j + 1) (cs.length - (j + 1)) = M at *
            have HNQ := Lib.hid hn
            clear hn hq
            go_wp2_with (first
              | (go_at_call 79; refine HCj.out.mono ?_; rintro e w2 ⟨A2, q, d, rfl, hr2, hb2⟩; have HR2 := Lib.hid hr2; have HB2 := Lib.hid hb2; have HM2 : Hid (w2.ownsMap Try.prog 3 heldV w1.heap.size (cs.length - (j + 1)) D) := (ownsMap_below hP.out.map hb2); clear hr2 hb2)
              | (at_mapUpdate; refine wpList_mapUpdate_own _ rfl _ _ _ 122 rfl 3 85 mapLawS Try.underlying122 heldV w1.heap.size _ _ rfl HM2.out GM.out _ _ _ rfl rfl HKF.out (.held (EnV.val ⟨(j : Int), A2, q, d, scB (nowS cs ws j)⟩)) [] rfl ?_; intro wm hm1 hg1))
            have HF := Lib.hid (HYES.out w2 wm A2 q d HB2.out HR2.out hm1 hg1)
            go_roundw
            case rel => exact ⟨j, (j : Int) - 1, _, _, by have := HK.out; omega, hji, rfl, (by rw [HM.out]; first | rfl | (congr 1; (try split) <;> omega)), HF.out⟩
            case measure => (simp [intOf]; try omega)
          · have ho' : scO (nowS cs ws j) = false := by simpa using ho
            have HO := Lib.hid ho'
            rw [ho'] at HCj
            have HM : Hid (mo (lgN cs ws) a j (cs.length - j) = mo (lgN cs ws) a (j + 1) (cs.length - (j + 1))) := by
              have := HK.out
              simp only [Hid]
              rw [show cs.length - j = (cs.length - (j + 1)) + 1 by omega, mo_none (lgN_no ho')]
            have HNO := Lib.hid (fun w1' h1 => @rn_no cs ws w1 wq w1' j D f hP.out (Nat.lt_of_succ_le HK.out) HO.out h1)
            clear ho ho'
            generalize hq : mo (lgN cs ws) a (j + 1) (cs.length - (j + 1)) = M at *
            clear hq
            go_wp2_with (go_at_call 79; refine HCj.out.mono ?_; rintro e w2 ⟨A2, q, d, rfl, hr2, hb2⟩; have HB2 := Lib.hid hb2; clear hr2 hb2)
            have HF := Lib.hid (HNO.out w2 HB2.out)
            go_roundw
            case rel => exact ⟨j, (j : Int) - 1, _, _, by have := HK.out; omega, hji, rfl, (by rw [HM.out]), HF.out⟩
            case measure => (simp [intOf]; try omega)
        · have HMX : Hid (mo (lgN cs ws) a k (cs.length - k) = scnM cs ws a) := by
            rcases HI.out.2 with h | h
            · obtain rfl : k = 2 := by omega
              rfl
            · subst h
              simp only [Hid]; unfold scnM
              rw [Nat.sub_self, show cs.length - 2 = 0 by omega]; rfl
          have HFX : Hid (∀ x, ff (lgN cs ws) k (cs.length - k) x = ff (lgN cs ws) 2 (cs.length - 2) x) := by
            rcases HI.out.2 with h | h
            · obtain rfl : k = 2 := by omega
              exact fun _ => rfl
            · subst h
              intro x
              rw [Nat.sub_self, show cs.length - 2 = 0 by omega]; rfl
          have i2 : i < 2 := by have := HI.out.1; omega
          have i2' : ¬ 2 ≤ i := by omega
          have HFS : Hid (∀ x, (ff (lgN cs ws) 2 (cs.length - 2) x = none → f x = none) ∧ ∀ j, ff (lgN cs ws) 2 (cs.length - 2) x = some j → ∃ v, f x = some v ∧ EnOk cs ws wq wq.heap.size j v) := fun x => by rw [← HFX.out x]; exact hP.out.fs x
          have HMP := Lib.hid hP.out.map
          have HIS := Lib.hid hP.out.is
          have HB0 : Hid (Below w.heap.size w wq) := HBA.out.trans ((HB1.out.trans (hP.out.below.mono HB1.out.size)).mono HBA.out.size)
          have hbl : Hid (w1.heap.size + 1 ≤ wq.heap.size) := hP.out.size
          have HMB := Lib.hid (scnM_bd (cs := cs) (ws := ws) (a := a) (by omega))
          rw [HMX.out]
          clear HMX HFX hP HN HI HC h3 hk
          generalize cs.length - k = kk at *
          have J0 := Lib.hid (rnJ_start cs ws a wq)
          go_wp2
          go_loopw [15, 16, 17] (fun v15 v16 v17 wr => ∃ (t : Nat) (js : List Nat) (vs : List EnV) (A : Option Addr) (c : Nat), Hid (t ≤ 4294967296) ∧ v17 = .int .i64 (a + 1 + (t : Int)) ∧ v16 = .int .i64 ((stp (lgB cs ws) js).length : Nat) ∧ v15 = .slice A vs.length c ∧ Hid (RnJ cs ws a wq t js vs A c wr)) (fun _ _ v17 _ => (4294967298 + a - intOf v17).toNat)
          case atStart => exact ⟨0, [], [], none, 0, Nat.zero_le _, by go_num, rfl, rfl, J0.out⟩
          case round =>
            obtain ⟨t, js, vs, A3, c3, ht, rfl, rfl, rfl, hJ⟩ := hrel
            obtain ⟨wz, rfl⟩ : ∃ z : World, z = wr := ⟨_, rfl⟩
            clear J0
            have hb := hJ.out.below
            have HMZ := Lib.hid (ownsMap_below HMP.out hb)
            have HT := Lib.hid (hJ.out.top)
            have ht1 : (t : Int) ≤ 4294967296 := by have := ht.out; omega
            have hvl : (vs.length : Int) ≤ 4294967296 := by have := rnJ_len hJ.out ⟨ha0, ha1⟩; omega
            have hwf : (Lit.int .i64 (a + 1 + (t : Int))).wf = true := WalkArith.wf_i64 (by omega)
            have HKF : Hid (keyOf Try.prog 3 (.int .i64 (a + 1 + (t : Int))) = some (.int .i64 (a + 1 + (t : Int)))) := keyOf_int_mk Try.underlying3 hwf
            have HJL := Lib.hid (ens_len hJ.out.ens)
            clear hwf hb
            cases hff : ff (lgN cs ws) 2 (cs.length - 2) (a + 1 + (t : Int)) with
            | none =>
              have HFN : Hid (f (a + 1 + (t : Int)) = none) := (HFS.out _).1 hff
              have HE := Lib.hid (rnJ_end hJ.out hff)
              have HQ : Hid (stp (lgB cs ws) js = scnL cs ws a) := by simp only [Hid, scnL]; rw [rnJ_end hJ.out hff]
              have HQL := Lib.hid (stp_le (b := lgB cs ws) js)
              have HQT := Lib.hid (stp_take (b := lgB cs ws) js)
              have HR1 : Hid ((f (a + 1 + (t : Int))).isSome = false) := by simp only [Hid]; rw [HFN.out]; rfl
              have HR2 : Hid ((f (a + 1 + (t : Int))).getD en0 = en0) := by simp only [Hid]; rw [HFN.out]; rfl
              have hrw := Lib.hid (hJ.out.own.rows (enc := EnV.cells) (k := 3) (fun _ => rfl) (by decide))
              have hc3 : (vs.length : Int) ≤ (c3 : Int) := by have := hrw.out.le; omega
              have hc4 := Lib.hid hrw.out.top
              have HEN := Lib.hid hJ.out.ens
              have HBZ := Lib.hid hJ.out.below
              clear hff
              generalize hq : (stp (lgB cs ws) js).length = Q at *
              have HQQ := Lib.hid hq
              have hq1 : (Q : Int) ≤ (vs.length : Int) := by have := HQL.out; have := HJL.out; omega
              have hq2 : (0 : Int) ≤ (Q : Int) := by omega
              have hq3 : (Q : Int) ≤ (c3 : Int) := by omega
              clear hq hJ
              go_wp2_with (at_lookup; refine wpList_lookup_en _ rfl _ _ 122 rfl 3 85 mapLawS Try.underlying122 (zeroEn _) w1.heap.size _ D f HIS.out rfl HMZ.out _ rfl HKF.out false en0 HR1.out HR2.out ?_)
              go_ret3
              have hbf : Below wq.heap.size wq (wz.alloc (.cells #[.int .i64 en0.i, .slice en0.A en0.n en0.c, .bool en0.b] 85)) := HBZ.out.alloc HBZ.out.size _
              refine .inr ⟨F.out, ⟨A3, Q, Q, vs.take Q, rfl, ?_, ?_⟩, HB0.out.trans (hbf.mono HB0.out.size)⟩
              · exact (rows_pre ((hrw.out.alloc (Nat.le_refl _) _).more (by simp)) (by omega) (Nat.le_refl _) (Nat.le_trans (by omega) hc4.out))
              · rw [← HQ.out, ← HQT.out]
                exact ens_take Q (ens_keep hbf.size hbf HEN.out)
            | some j =>
              obtain ⟨v, hv, hok⟩ := (HFS.out _).2 j hff
              have HR1 : Hid ((f (a + 1 + (t : Int))).isSome = true) := by simp only [Hid]; rw [hv]; rfl
              have HR2 : Hid ((f (a + 1 + (t : Int))).getD en0 = v) := by simp only [Hid]; rw [hv]; rfl
              have HLT := Lib.hid (rnJ_lt hff)
              have HFF := Lib.hid hff
              have HOK := Lib.hid hok
              have hlast : Hid (v.b = lgB cs ws j) := hok.last
              clear hff hv hok
              obtain ⟨vi, vA, vn, vc, vb⟩ := v
              simp only at hlast
              have hro := heap_alloc_new wz (.cells #[.int .i64 vi, .slice vA vn vc, .bool vb] 85)
              obtain ⟨wo, hwo⟩ : ∃ z : World, z = wz.alloc (.cells #[.int .i64 vi, .slice vA vn vc, .bool vb] 85) := ⟨_, rfl⟩
              rw [← hwo] at hro
              have hbo : Below wq.heap.size wq wo := by rw [hwo]; exact hJ.out.below.alloc hJ.out.below.size _
              have c0 : wo.cell? ⟨wz.heap.size, 0, none⟩ = some (.int .i64 vi) := row_cell hro 0
              have c1 : wo.cell? ⟨wz.heap.size, 1, none⟩ = some (.slice vA vn vc) := row_cell hro 1
              have c2 : wo.cell? ⟨wz.heap.size, 2, none⟩ = some (.bool vb) := row_cell hro 2
              have OW : Hid (Owns wo wq.heap.size 3 (.slice A3 vs.length c3) vs.length (vs.flatMap EnV.cells)) := by rw [hwo]; exact hJ.out.own.alloc _
              have HNE : Hid (Value.ownBlock (.slice A3 vs.length c3) ≠ some wz.heap.size) := hJ.out.own.ne_of_le (Nat.le_refl _)
              have HZ : Hid (wo.heap.size = wz.heap.size + 1) := by rw [hwo]; simp [Hid]
              have HBO := Lib.hid hbo
              have HWO := Lib.hid hwo
              have G2 : Hid (∀ u ∈ (#[.int .i64 vi, .slice vA vn vc, .bool vb] : Array Value).toList, u.oneCell' = true) := by simp [Hid, Value.oneCell']
              have G3 : Hid (vs.length + 1 ≤ maxLen ∧ (vs.length + 1) * 40 ≤ 140737488355328) := by unfold maxLen; simp only [Hid]; omega
              have G4 : Hid (0 < 3) := by simp [Hid]
              have HT5 : Hid (t + 1 ≤ 4294967296) := by have := HLT.out; have := HMB.out; simp only [Hid]; omega
              have HADD := Lib.hid (fun (w5 : World) (A4 : Option Addr) (c4 : Nat) (row : Option Nat) hl hown => @rnJ_add cs ws a wq wz wo w5 t j js vs A3 A4 c3 c4 ⟨vi, vA, vn, vc, vb⟩ row hJ.out HFF.out HOK.out HBO.out hl hown)
              clear hro hbo hwo
              cases vb
              · have hst : Hid ((stp (lgB cs ws) (js ++ [j])).length = (stp (lgB cs ws) js).length) := by simp only [Hid]; rw [stp_no hlast.out.symm]
                go_wp2_with (first
                  | (at_lookup; refine wpList_lookup_en _ rfl _ _ 122 rfl 3 85 mapLawS Try.underlying122 (zeroEn _) w1.heap.size _ D f HIS.out rfl HMZ.out _ rfl HKF.out true _ HR1.out HR2.out ?_)
                  | (at_builtin; rw [← HWO.out]; refine wpList_add1 (size := 3) (bytes := 40) (base := wq.heap.size) (H := wz.heap.size + 1) (news := #[.int .i64 vi, .slice vA vn vc, .bool false]) rfl rfl Try.underlying79 info_en rfl G4.out OW.out rfl HBO.out.size rfl HZ.out rfl G2.out G3.out.1 G3.out.2 ?_; intro A4 c4 w5 hown5 hl5 hn5; have x2 := hl5.cell c2 HNE.out))
                obtain ⟨F5, e5⟩ := HADD.out w5 A4 c4 _ hl5 hown5
                have HF := Lib.hid F5
                have HE := Lib.hid e5
                clear F5 e5
                go_roundw
                case rel => exact ⟨t + 1, js ++ [j], _, A4, c4, HT5.out, val_int (by omega), by rw [hst.out], by rw [HE.out], HF.out⟩
                case measure => (simp [intOf]; try omega)
              · have hst : Hid ((stp (lgB cs ws) (js ++ [j])).length = vs.length + 1) := by simp only [Hid]; rw [stp_yes hlast.out.symm, List.length_append, HJL.out]; rfl
                go_wp2_with (first
                  | (at_lookup; refine wpList_lookup_en _ rfl _ _ 122 rfl 3 85 mapLawS Try.underlying122 (zeroEn _) w1.heap.size _ D f HIS.out rfl HMZ.out _ rfl HKF.out true _ HR1.out HR2.out ?_)
                  | (at_builtin; rw [← HWO.out]; refine wpList_add1 (size := 3) (bytes := 40) (base := wq.heap.size) (H := wz.heap.size + 1) (news := #[.int .i64 vi, .slice vA vn vc, .bool true]) rfl rfl Try.underlying79 info_en rfl G4.out OW.out rfl HBO.out.size rfl HZ.out rfl G2.out G3.out.1 G3.out.2 ?_; intro A4 c4 w5 hown5 hl5 hn5; have x2 := hl5.cell c2 HNE.out))
                obtain ⟨F5, e5⟩ := HADD.out w5 A4 c4 _ hl5 hown5
                have HF := Lib.hid F5
                have HE := Lib.hid e5
                clear F5 e5
                go_roundw
                case rel => exact ⟨t + 1, js ++ [j], _, A4, c4, HT5.out, val_int (by omega), val_int (by rw [hst.out]; omega), by rw [HE.out], HF.out⟩
                case measure => (simp [intOf]; try omega)
  · have F := Lib.hid (scnE_dsk (a := a) hd)
    generalize hE : dskE cs ws = E at *
    have hE2 : (E != 0) = true := bne_iff_ne.2 hd
    have HD := Lib.hid hd
    clear hd hE
    go_enter Try.func45, Try.ntmps45
    go_wp2_with (go_at_call 60; rw [← HWA.out]; refine HCk.out.mono ?_; rintro e w1 ⟨rfl, hb1⟩)
    go_ret3
    exact .inl ⟨by rw [F.out]; exact HD.out, by rw [F.out]; rfl, HBA.out.trans (hb1.mono HBA.out.size)⟩
end Go.Proofs.Ytjmgocfoimhmjaa

/- The law ScanSays, walked: it returns true for every disk and number. -/
namespace Go.Proofs.Ytjmgocfoimhmjaa.lScanSays
open Go.RowKit

theorem no_ens (w : World) (B : Nat) : RowsIn w B none 0 0 EnV.cells 3 ([] : List EnV) := ⟨rfl, Nat.le_refl _, Nat.zero_le _, fun i x h => by simp at h⟩
set_option maxRecDepth 20000 in
set_option maxHeartbeats 2000000 in
theorem walk (a0_0 : Option Addr) (n0_0 c0_0 : Nat) (x0_0 : List ByteArray) (a0_1 : Option Addr) (n0_1 c0_1 : Nat) (x0_1 : List PutD) (x1 : Int) (w : World) (r0_0 : RowsIn w w.heap.size a0_0 n0_0 c0_0 (fun z => [.string z]) 1 x0_0) (_o0_0 : ∀ z ∈ x0_0, (fun z => z.size ≤ maxLen) z) (_s0_0 : c0_0 * 16 ≤ 140737488351232) (r0_1 : RowsIn w w.heap.size a0_1 n0_1 c0_1 PutD.cells 2 x0_1) (_o0_1 : ∀ z ∈ x0_1, PutD.ok z) (_s0_1 : c0_1 * 24 ≤ 140737488351232) (_h1 : (Lit.int .i64 x1).wf = true) :
    Calls Try.prog 11 #[.agg #[.slice a0_0 n0_0 c0_0, .slice a0_1 n0_1 c0_1], .int .i64 x1] w fun e w' => e = .returned (.bool true) ∧ Below w.heap.size w w' := by
  clear _o0_0 _s0_0 _o0_1 _s0_1 _h1
  obtain ⟨wa, hwa⟩ : ∃ wa, wa = w.alloc (.cells #[.slice a0_0 n0_0 c0_0, .slice a0_1 n0_1 c0_1] 41) := ⟨_, rfl⟩
  have hba : Below w.heap.size w wa := by rw [hwa]; exact (Below.refl _ _).alloc (Nat.le_refl _) _
  have hrb : wa.heap[w.heap.size]? = some (.cells #[.slice a0_0 n0_0 c0_0, .slice a0_1 n0_1 c0_1] 41 (0, 0)) := by rw [hwa]; exact heap_alloc_new w _
  have hle := hba.size
  have RA := Lib.hid ((r0_0.below hba).more hle)
  have RA' := Lib.hid ((r0_1.below hba).more hle)
  have HC : Hid (∀ W, Below wa.heap.size wa W → W.cell? ⟨w.heap.size, 0, none⟩ = some (.slice a0_0 n0_0 c0_0) ∧ W.cell? ⟨w.heap.size, 1, none⟩ = some (.slice a0_1 n0_1 c0_1)) := fun W h => by
    have q0 := row_below hrb (row_lt hrb) h
    exact ⟨row_cell q0 0, row_cell q0 1⟩
  have c0 : wa.cell? ⟨w.heap.size, 0, none⟩ = some (.slice a0_0 n0_0 c0_0) := row_cell hrb 0
  have c1 : wa.cell? ⟨w.heap.size, 1, none⟩ = some (.slice a0_1 n0_1 c0_1) := row_cell hrb 1
  have H1 := Lib.hid (run_any a0_0 n0_0 c0_0 x0_0 a0_1 n0_1 c0_1 x0_1 x1 wa RA.out RA'.out)
  have H2 : Hid (∀ W, Below wa.heap.size wa W → Calls Try.prog 46 #[.agg #[.slice a0_0 n0_0 c0_0, .slice a0_1 n0_1 c0_1], .int .i64 x1] W (RunPost x0_0 x0_1 x1 W)) := fun W h => scan_any a0_0 n0_0 c0_0 x0_0 a0_1 n0_1 c0_1 x0_1 x1 W ((RA.out.below h).more h.size) ((RA'.out.below h).more h.size)
  have HWA := Lib.hid hwa
  have HBA := Lib.hid hba
  clear r0_0 r0_1 hwa hba hrb hle RA RA'
  by_cases he : scnE x0_0 x0_1 x1 = 0
  · have H1' : Hid (Calls Try.prog 45 #[.agg #[.slice a0_0 n0_0 c0_0, .slice a0_1 n0_1 c0_1], .int .i64 x1] wa fun e w' => ∃ A n c vs, e = .returned (.tuple #[.slice A n c, .int .i64 (scnM x0_0 x0_1 x1), .int .i64 0]) ∧ RowsIn w' w'.heap.size A n c EnV.cells 3 vs ∧ EnsOk x0_0 x0_1 w' w'.heap.size (scnL x0_0 x0_1 x1) vs ∧ Below wa.heap.size wa w') :=
      H1.out.mono fun e w' h => by
        rcases h with ⟨h, _⟩ | ⟨_, ⟨A, n, c, vs, h1, h2, h3⟩, h4⟩
        · exact absurd he h
        · exact ⟨A, n, c, vs, h1, h2, h3, h4⟩
    have H2' : Hid (∀ W, Below wa.heap.size wa W → Calls Try.prog 46 #[.agg #[.slice a0_0 n0_0 c0_0, .slice a0_1 n0_1 c0_1], .int .i64 x1] W fun e w' => ∃ A n c vs, e = .returned (.tuple #[.slice A n c, .int .i64 (scnM x0_0 x0_1 x1), .int .i64 0]) ∧ RowsIn w' w'.heap.size A n c EnV.cells 3 vs ∧ EnsOk x0_0 x0_1 w' w'.heap.size (scnL x0_0 x0_1 x1) vs ∧ Below W.heap.size W w') :=
      fun W hW => (H2.out W hW).mono fun e w' h => by
        rcases h with ⟨h, _⟩ | ⟨_, ⟨A, n, c, vs, h1, h2, h3⟩, h4⟩
        · exact absurd he h
        · exact ⟨A, n, c, vs, h1, h2, h3, h4⟩
    clear H1 H2 he
    generalize scnM x0_0 x0_1 x1 = M at *
    generalize scnL x0_0 x0_1 x1 = L at *
    go_enter Try.func11, Try.ntmps11
    go_wp2_with (first
      | (go_at_call 45; rw [← HWA.out]; refine H1'.out.mono ?_; rintro e w1 ⟨A, n, c, vs, rfl, h2, h3, hb1⟩; obtain ⟨k0, k1⟩ := HC.out _ hb1; have HR1 := Lib.hid h2; have HE1 := Lib.hid h3; have HB1 := Lib.hid hb1; clear h2 h3 hb1)
      | (go_at_call 46; refine (H2'.out _ HB1.out).mono ?_; rintro e w2 ⟨A', n', c', vs', rfl, h2, h3, hb2⟩; have HR2 := Lib.hid h2; have HE2 := Lib.hid h3; have HB2 := Lib.hid hb2; clear h2 h3 hb2)
      | (go_at_call 47; refine (eqf_any x0_0 x0_1 L A n c vs A' n' c' vs' w2 (ens_keep HB2.out.size HB2.out HE1.out) HE2.out ((HR1.out.below HB2.out).more HB2.out.size) HR2.out).mono ?_; rintro e w3 ⟨rfl, hb3⟩))
    go_ret
    exact ⟨rfl, HBA.out.trans ((HB1.out.trans ((HB2.out.trans (hb3.mono HB2.out.size)).mono HB1.out.size)).mono HBA.out.size)⟩
  · have H1' : Hid (Calls Try.prog 45 #[.agg #[.slice a0_0 n0_0 c0_0, .slice a0_1 n0_1 c0_1], .int .i64 x1] wa fun e w' => e = .returned (.tuple #[.slice none 0 0, .int .i64 0, .int .i64 (scnE x0_0 x0_1 x1)]) ∧ Below wa.heap.size wa w') :=
      H1.out.mono fun e w' h => by
        rcases h with ⟨_, h⟩ | ⟨h, _⟩
        · exact h
        · exact absurd h he
    have H2' : Hid (∀ W, Below wa.heap.size wa W → Calls Try.prog 46 #[.agg #[.slice a0_0 n0_0 c0_0, .slice a0_1 n0_1 c0_1], .int .i64 x1] W fun e w' => e = .returned (.tuple #[.slice none 0 0, .int .i64 0, .int .i64 (scnE x0_0 x0_1 x1)]) ∧ Below W.heap.size W w') :=
      fun W hW => (H2.out W hW).mono fun e w' h => by
        rcases h with ⟨_, h⟩ | ⟨h, _⟩
        · exact h
        · exact absurd h he
    clear H1 H2 he
    generalize scnE x0_0 x0_1 x1 = E at *
    go_enter Try.func11, Try.ntmps11
    go_wp2_with (first
      | (go_at_call 45; rw [← HWA.out]; refine H1'.out.mono ?_; rintro e w1 ⟨rfl, hb1⟩; obtain ⟨k0, k1⟩ := HC.out _ hb1; have HB1 := Lib.hid hb1; clear hb1)
      | (go_at_call 46; refine (H2'.out _ HB1.out).mono ?_; rintro e w2 ⟨rfl, hb2⟩; have HB2 := Lib.hid hb2; clear hb2)
      | (go_at_call 47; refine (eqf_any x0_0 x0_1 [] none 0 0 [] none 0 0 [] w2 trivial trivial (no_ens _ _) (no_ens _ _)).mono ?_; rintro e w3 ⟨rfl, hb3⟩))
    go_ret
    exact ⟨rfl, HBA.out.trans ((HB1.out.trans ((HB2.out.trans (hb3.mono HB2.out.size)).mono HB1.out.size)).mono HBA.out.size)⟩
end Go.Proofs.Ytjmgocfoimhmjaa.lScanSays

namespace Go.Proofs.Ytjmgocfoimhmjaa.lScanSays
open Go.ChangeShapes Go.WideShapes Go.ChangeAt Go.RowKit Go.Deep
open Go.ChangeMaps (open_string shut_string)
set_option linter.unusedVariables false

theorem own : ownKnob Try.prog.godebug = none := by kernel_rfl
theorem laidOut : laidOutB Try.prog = true := by kernel_rfl

theorem el_PutD {H : Type} {enc : TypeId × Value → H} {w : World} {base : Nat} {spare : Nat → Bool} {held : Bool} : ∀ (m : Nat) (cs : List Value) (y : DataW H × List MemPlace), DataW.trod enc Try.prog w base spare held m 100 cs = some y → ∃ z : PutD, cs = z.cells ∧ z.ok := by
  intro m cs y h
  obtain ⟨hl, ys, _, _, hf⟩ := el_fields Try.underlying100 (by kernel_rfl) (by kernel_rfl) h
  obtain ⟨v0, z0, m0, c0, _, t0⟩ := hf 0 _ rfl
  obtain ⟨a0, e0, _, w0⟩ := DataW.trod_int Try.underlying3 t0
  simp only [List.cons.injEq, and_true] at e0
  subst e0
  obtain ⟨v1, z1, m1, c1, _, t1⟩ := hf 1 _ rfl
  obtain ⟨a1, e1, _, w1⟩ := DataW.trod_string Try.underlying9 t1
  simp only [List.cons.injEq, and_true] at e1
  subst e1
  exact ⟨⟨a0, a1⟩, list2 hl c0 c1, ⟨w0, w1⟩⟩

set_option maxRecDepth 100000 in
theorem lifted (os : Os) (started : os.Started) (H : Type) (enc : TypeId × Value → H) :
    ReturnsInHanded {} Try.checked os 11 .any (Rows.scanSaysSpec.pre6 enc Try.prog Try.f11 Rows.scanSaysRow.domain false) (Rows.scanSaysSpec.post enc Try.prog Try.f11 false true false false) := by
  refine returnsInHanded_of_change_sized (C := Try.checked) own started (by kernel_rfl) Try.func11
    (ChangeSpec.witness6 (enc := enc) (C := Try.checked) false ⟨#[], #[.agg #[.slice none 0 0, .slice none 0 0], .int .i64 0], []⟩ 8 (by kernel_rfl) (by kernel_rfl) (by kernel_rfl) (by kernel_rfl)) ?_
  intro W base args ds gs before hval0 hW hcnd hsz0 _
  have hval : ∀ (j : Nat) t v, Try.f11.params[j]? = some t → args[j]? = some v → Value.okWide Try.prog W .any base t v := hval0
  have hW' := hW
  obtain ⟨p, q, hA0, hV, rfl, hfz, hnd⟩ := hW
  have hA : DataW.TrodAll enc Try.prog W 0 (fun _ => true) true Try.f11.params.toList args.toList ds p := hA0
  rw [Try.params11] at hA hval
  obtain ⟨v0, vs0, d0, ds0, p0, q0, hargs, rfl, rfl, h0, t0⟩ := trodAll_cons hA
  obtain ⟨v1, vs1, d1, ds1, p1, q1, rfl, rfl, rfl, h1, t1⟩ := trodAll_cons t0
  obtain ⟨rfl, rfl, rfl⟩ := trodAll_nil t1
  obtain rfl : args = #[v0, v1] := by cases args; simp_all
  obtain ⟨rfl, rfl⟩ := trodVars_none hV
  have k0 := h0
  have lt0 : ∀ x ∈ p0, x.block < W.heap.size := by obtain ⟨m, hm⟩ := k0; exact DataW.trod_lt m _ _ _ hm
  have k1 := h1
  have lt1 : ∀ x ∈ p1, x.block < W.heap.size := by obtain ⟨m, hm⟩ := k1; exact DataW.trod_lt m _ _ _ hm
  have hsz : (DataW.weightsEach Try.prog [41, 3] [d0, d1]).all (· ≤ reachBytes) = true := by have := hsz0; rw [Try.params11] at this; exact this
  obtain ⟨⟨l0⟩, rfl, _⟩ := okWide_struct Try.underlying41 (hval 0 41 v0 rfl rfl)
  obtain ⟨fuel0, hf0⟩ := h0
  obtain ⟨hl0, ys0, hyl0, hy0, hfl0⟩ := el_fields Try.underlying41 (by kernel_rfl) (by kernel_rfl) hf0
  have hd0 : d0 = .agg (ys0.map (·.1)) := congrArg Prod.fst hy0
  have hsf0 := sized_agg hsz (j := 0) (t := 41) rfl (congrArg some hd0) Try.underlying41
  obtain ⟨v0_0, z0_0, m0_0, c_0_0, yz0_0, t0_0⟩ := hfl0 0 _ rfl
  obtain ⟨a0_0, n0_0, c0_0, rfl, ⟨x0_0, r0_0, o0_0⟩, g0_0⟩ := open_rows_v (cells := (fun z => [.string z])) (ok := (fun z => z.size ≤ maxLen)) (k := 1) Try.underlying38 (by kernel_rfl) (by decide) (el_string Try.underlying9) t0_0
  have s0_0 : c0_0 * 16 ≤ 140737488351232 := by
    rcases g0_0 with ⟨_, _, hc, _⟩ | ⟨elems, sp, hd, hl, hs⟩
    · subst hc; omega
    · have hb : Try.prog.bytesOf 9 = 16 := by kernel_rfl
      have hle := r0_0.le
      have hsp : elems.length + sp.length = c0_0 := by rw [hl, hs (fun _ => rfl)]; omega
      have := sized_slice hsf0 (j := 0) (t := 38) (e := 9) (elems := elems) (spare := sp) rfl (by rw [List.getElem?_map, yz0_0]; exact congrArg some hd) Try.underlying38
      rw [hb, hsp] at this
      simpa [reachBytes] using this
  obtain ⟨v0_1, z0_1, m0_1, c_0_1, yz0_1, t0_1⟩ := hfl0 1 _ rfl
  obtain ⟨a0_1, n0_1, c0_1, rfl, ⟨x0_1, r0_1, o0_1⟩, g0_1⟩ := open_rows_v (cells := PutD.cells) (ok := PutD.ok) (k := 2) Try.underlying39 (by kernel_rfl) (by decide) (el_PutD (enc := enc)) t0_1
  have s0_1 : c0_1 * 24 ≤ 140737488351232 := by
    rcases g0_1 with ⟨_, _, hc, _⟩ | ⟨elems, sp, hd, hl, hs⟩
    · subst hc; omega
    · have hb : Try.prog.bytesOf 100 = 24 := by kernel_rfl
      have hle := r0_1.le
      have hsp : elems.length + sp.length = c0_1 := by rw [hl, hs (fun _ => rfl)]; omega
      have := sized_slice hsf0 (j := 1) (t := 39) (e := 100) (elems := elems) (spare := sp) rfl (by rw [List.getElem?_map, yz0_1]; exact congrArg some hd) Try.underlying39
      rw [hb, hsp] at this
      simpa [reachBytes] using this
  obtain rfl := list2 hl0 c_0_0 c_0_1
  obtain ⟨a1, rfl, rfl, rfl, w1⟩ := open_int Try.underlying3 (hval 1 3 v1 rfl rfl) h1
  refine (walk a0_0 n0_0 c0_0 x0_0 a0_1 n0_1 c0_1 x0_1 a1 W r0_0 o0_0 s0_0 r0_1 o0_1 s0_1 w1).mono fun e W' ⟨he, bel⟩ => ?_
  subst he
  exact ⟨_, rfl, _, _, _, [], _, [], hW', trodAll_mk1 (shut_bool Try.underlying4 _), (trodAll_cons_mk (Below.trod laidOut (by kernel_rfl) (of_decide_eq_true (by kernel_rfl)) k0 bel lt0) (trodAll_cons_mk (Below.trod laidOut (by kernel_rfl) (of_decide_eq_true (by kernel_rfl)) k1 bel lt1) trodAll_mk0)), rfl, bel.frame _, fun h => by cases h⟩

theorem over : Rows.scanSaysRow.holds Try.pinned (OpenSpec.ofChange Rows.scanSaysSpec) :=
  OpenClaim.holds_of_wide 11 Try.f11 rfl rfl rfl rfl rfl rfl rfl ⟨rfl, rfl, rfl, rfl, rfl⟩ rfl rfl rfl rfl rfl (by kernel_rfl) Try.func11 (by kernel_rfl)
    (of_decide_eq_true (by kernel_rfl)) (by unfold Func.isWrapper; first | (rw [if_pos (by decide +kernel)]; kernel_rfl) | (rw [if_neg (by decide +kernel)]; exact ⟨rfl, rfl⟩))
    (fun os started H enc _ => lifted os started H enc)

theorem proved : Rows.ScanSaysSaid := over
end Go.Proofs.Ytjmgocfoimhmjaa.lScanSays
