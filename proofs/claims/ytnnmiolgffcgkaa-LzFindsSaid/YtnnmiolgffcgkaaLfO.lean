/- lz's chains: m[k] = append(m[k], i), as the walk meets it. -/
import Derived.Test.YtnnmiolgffcgkaaLfN
namespace Go.Proofs.Ytnnmiolgffcgkaa
open Go.RowKit Go.PlainAid Go.WideMaps Go.WideElems Go.MapKept
open Go.ChangeMaps (setBlock heap_setBlock_same heap_setBlock_other)

section
variable {P : Program} {w : World} {ops : Array Oper} {rest : List Oper} {o : Oper} {a : Act} {Q : Exit → Act → World → Prop}
theorem wpList_lookup_run (hg : o.guard = none) {m x : Operand} {t : TypeId} (hop : o.op = Op.lookup t m x false) {v mv xv : Value} (hm : a.eval m = mv) (hx : a.eval x = xv)
    (hrun : (Instr.lookup t mv xv false).run P w = .ok v w) (hK : wpList P ops Q rest (a.put o.dst v) w) : wpList P ops Q (o :: rest) a w := by
  refine wpList_plain hg fun K' hK' => ?_
  unfold Oper.wp
  simp [execOp, hop, hm, hx, hrun, Result.andThen]
  exact hK' _ _ hK
theorem wpList_entry_run (hg : o.guard = none) {m x : Operand} {t : TypeId} (hop : o.op = Op.mapEntry t m x) {v mv xv : Value} {w' : World} (hm : a.eval m = mv) (hx : a.eval x = xv)
    (hrun : (Instr.mapEntry t mv xv).run P w = .ok v w') (hK : wpList P ops Q rest (a.put o.dst v) w') : wpList P ops Q (o :: rest) a w := by
  refine wpList_plain hg fun K' hK' => ?_
  unfold Oper.wp
  simp [execOp, hop, hm, hx, hrun, Result.andThen]
  exact hK' _ _ hK
theorem wpList_store_run (hg : o.guard = none) {m st x : Operand} {t : TypeId} (hop : o.op = Op.entryStore t m st x) {mv sv xv : Value} {w' : World} (hm : a.eval m = mv) (hs : a.eval st = sv) (hx : a.eval x = xv)
    (hrun : (Instr.entryStore t mv sv xv).run P w = .ok () w') (hd : o.dst = none) (hK : wpList P ops Q rest a w') : wpList P ops Q (o :: rest) a w := by
  refine wpList_plain hg fun K' hK' => ?_
  unfold Oper.wp
  simp [execOp, hop, hm, hs, hx, hrun, Result.andThen]
  have e : a.put o.dst undef = a := by rw [hd]; rfl
  show K' (a.put o.dst undef) w'
  rw [e]
  exact hK' _ _ hK
theorem wpList_app_at (hgd : o.guard = none) {s x : Operand} {t : TypeId} (ho : o.op = .call { callee := .builtin .append, args := #[s, x], argTypes := #[t, t] })
    {e : TypeId} {z : Value} {bytes : Nat} (ht : P.underlying t = some (.slice e)) (hinfo : (P.info? e).map (fun i => (i.zero, i.size, i.bytes)) = some (some z, 1, bytes)) (hzs : z.cells.size = 1)
    {base : Nat} {v : Value} {n : Nat} {xs : List Value} (hown : w.ownsRow base e 1 v n xs) (hs : a.eval s = v) (hbase : base ≤ w.heap.size)
    {c : Nat} {u : Value} {g : Nat} (hx : a.eval x = .slice (some ⟨g, 0, none⟩) 1 c) (hu : w.cell? ⟨g, 0, none⟩ = some u) (h1 : u.oneCell' = true)
    (h63 : n + 1 ≤ maxLen) (hbytes : (n + 1) * bytes ≤ 140737488355328)
    (h : ∀ v' w', w'.ownsRow base e 1 v' (n + 1) (xs ++ [u]) → w.grownBy w' v.ownBlock → (v'.ownBlock = v.ownBlock ∨ v'.ownBlock = some w.heap.size) → wpList P ops Q rest (a.put o.dst v') w') :
    wpList P ops Q (o :: rest) a w := by
  refine wpList_plain hgd fun K hK => ?_
  obtain ⟨i, hi, hz0, hz1, hz2⟩ := info_parts hinfo
  obtain ⟨v', w', hrun, h2, h3, _, h5⟩ := run_append_own_at (P := P) (w := w) base t o.type e i z 1 bytes ht hi hz0 hz1 hz2 hzs (by omega) v n xs hown
    ⟨g, 0, none⟩ 1 c [u] rfl (fun j u' hj => by
      cases j with
      | zero => simp at hj; subst hj; exact hu
      | succ j => simp at hj) (by simpa using h1) h63 hbytes hbase
  unfold Oper.wp execOp
  simp only [ho, resolve, invoke, builtin, Sem.run_bind, Sem.run_pure, Result.andThen_ok, List.map_toArray, List.map_cons, List.map_nil, hs, hx, hrun]
  exact hK _ _ (h v' w' h2 h3 h5)
end

theorem below_setBlock {B : Nat} {a w : World} {b : Nat} {es : Array MapEntry} {clock : Nat} (h : Below B a w) (hb : w.heap[b]? = some (.map es clock)) (o : Obj) (hB : B ≤ b) : Below B a (setBlock w b o) :=
  ⟨h.os, h.tape, h.output, by simpa [setBlock] using h.size, fun k hk => (heap_setBlock_other hb o (by omega)).trans (h.block k hk)⟩
theorem own_int {w : World} {B : Nat} {v : Value} {n : Nat} {xs : List Value} (h : w.ownsRow B 3 1 v n xs) (hn : 0 < n) : ∃ g, v.ownBlock = some g := by
  rcases h.2 with ⟨rfl, rfl⟩ | ⟨g, cap, cur, rfl, _⟩
  · have := h.1; simp at this; omega
  · exact ⟨g, rfl⟩
theorem mem_ix {es : Array MapEntry} {e : MapEntry} : e ∈ es.toList ↔ ∃ j : Nat, es[j]? = some e := by
  rw [List.mem_iff_getElem?]; simp
theorem maps_set {es : Array MapEntry} {j : Nat} {e0 : MapEntry} (h : es[j]? = some e0) (v : Value) :
    (es.setIfInBounds j { e0 with val := v }).toList.map (·.born) = es.toList.map (·.born) ∧ (es.setIfInBounds j { e0 with val := v }).toList.map (·.key) = es.toList.map (·.key) := by
  have hl : es.toList[j]? = some e0 := by simpa using h
  constructor
  · rw [Array.toList_setIfInBounds, List.map_set]
    exact set_self _ _ _ (by rw [List.getElem?_map, hl]; rfl)
  · rw [Array.toList_setIfInBounds, List.map_set]
    exact set_self _ _ _ (by rw [List.getElem?_map, hl]; rfl)
theorem stamped_set {es : Array MapEntry} {clock j : Nat} {e0 : MapEntry} (hs : Stamped es clock) (h : es[j]? = some e0) (v : Value) : Stamped (es.setIfInBounds j { e0 with val := v }) clock := by
  obtain ⟨h1, h2⟩ := maps_set h v
  refine ⟨fun x hx => ?_, by rw [h1]; exact hs.2.1, by rw [h2]; exact hs.2.2⟩
  have : x.born ∈ (es.setIfInBounds j { e0 with val := v }).toList.map (·.born) := List.mem_map.2 ⟨x, hx, rfl⟩
  rw [h1] at this
  obtain ⟨y, hy, e⟩ := List.mem_map.1 this
  have := hs.1 y hy
  omega
theorem stamped_push {es : Array MapEntry} {clock : Nat} (hs : Stamped es clock) {key v : Value} (hno : ∀ x ∈ es.toList, x.key ≠ key) : Stamped (es.push ⟨key, v, clock⟩) (clock + 1) := by
  refine ⟨fun x hx => ?_, ?_, ?_⟩
  · simp only [Array.toList_push, List.mem_append, List.mem_singleton] at hx
    rcases hx with hx | rfl
    · have := hs.1 x hx; omega
    · simp
  · simp only [Array.toList_push, List.map_append, List.map_cons, List.map_nil]
    refine List.nodup_append.2 ⟨hs.2.1, by simp, fun a ha c hc e1 => ?_⟩
    simp only [List.mem_singleton] at hc
    obtain ⟨x, hx, rfl⟩ := List.mem_map.1 ha
    have := hs.1 x hx
    omega
  · simp only [Array.toList_push, List.map_append, List.map_cons, List.map_nil]
    refine List.nodup_append.2 ⟨hs.2.2, by simp, fun a ha c hc e1 => ?_⟩
    simp only [List.mem_singleton] at hc
    obtain ⟨x, hx, rfl⟩ := List.mem_map.1 ha
    exact hno x hx (e1.trans hc)
theorem keys_one {es : Array MapEntry} {clock j1 j2 : Nat} {e1 e2 : MapEntry} (hs : Stamped es clock) (h1 : es[j1]? = some e1) (h2 : es[j2]? = some e2) (h : e1.key = e2.key) : j1 = j2 := by
  have l1 : (es.toList.map (·.key))[j1]? = some e1.key := by simp [h1]
  have l2 : (es.toList.map (·.key))[j2]? = some e1.key := by simp [h2, h]
  obtain ⟨a1, b1⟩ := List.getElem?_eq_some_iff.1 l1
  obtain ⟨a2, b2⟩ := List.getElem?_eq_some_iff.1 l2
  exact (List.getElem_inj hs.2.2).1 (b1.trans b2.symm)
/-- m[k] = append(m[k], i). -/
theorem MapI.step {s : ByteArray} {B r i : Nat} {w : World} {es : Array MapEntry} {clock : Nat} (h : MapI s B r i w es clock) :
    ∃ (v0 : Value) (st : Nat) (W2 : World), (Instr.mapEntry 136 (.map (some r)) (tri s i)).run Try.prog w = .ok (.tuple #[v0, goInt st]) W2 ∧ w.grownBy W2 (some r) ∧ W2.heap.size = w.heap.size ∧
      W2.ownsRow B 3 1 v0 (occ s i i).length (ocV s i i) ∧
      ∀ v' W3, W3.ownsRow B 3 1 v' ((occ s i i).length + 1) (ocV s i i ++ [.int .i64 (i : Int)]) → W2.grownBy W3 v0.ownBlock → (v'.ownBlock = v0.ownBlock ∨ v'.ownBlock = some W2.heap.size) →
        ∃ W4 es' clock', (Instr.entryStore 136 (.map (some r)) (goInt st) v').run Try.prog W3 = .ok () W4 ∧ W3.grownBy W4 (some r) ∧ MapI s B r (i + 1) W4 es' clock' := by
  obtain ⟨kl, hkl⟩ := tri_key s i
  have hrb : ∀ (W3 : World) (W : World) (v0 : Value) (ob : Obj), W.ownsRow B 3 1 v0 (occ s i i).length (ocV s i i) → W.heap[r]? = some ob → W.grownBy W3 v0.ownBlock → W3.heap[r]? = some ob := fun W3 W v0 ob ho hh hg => by
    rw [hg.block r (Array.getElem?_eq_some_iff.1 hh).1 (fun e => by have := (ho.lt r e.symm).1; have := h.rlt; omega)]; exact hh
  have hself : ∀ (W3 : World) (v' : Value), W3.ownsRow B 3 1 v' ((occ s i i).length + 1) (ocV s i i ++ [.int .i64 (i : Int)]) → W3.ownsRow B 3 1 v' (occ s (i + 1) i).length (ocV s (i + 1) i) := fun W3 v' ho => by
    have hl : (occ s (i + 1) i).length = (occ s i i).length + 1 := by rw [occ_yes (fun _ _ => rfl)]; simp
    rw [hl, ocV_yes (fun _ _ => rfl)]; exact ho
  by_cases hyes : ∃ x ∈ es.toList, x.key = tri s i
  · obtain ⟨j, e0, hj, hk0, hrun, hst⟩ := entry_old triKey.law tri_map h.here h.keyed h.st hkl hyes
    have hjm : e0 ∈ es.toList := List.mem_of_getElem? (by simpa using hj)
    obtain ⟨k0, k1, k2, k3⟩ := h.ents e0 hjm
    have hs0 := tri_eq.1 (hk0.symm.trans k2)
    have ho0 : w.ownsRow B 3 1 e0.val (occ s i i).length (ocV s i i) := by rw [occ_same hs0, ocV_same hs0]; exact k3
    have hg2 := grown_setBlock h.here (.map es clock)
    have hh2 := heap_setBlock_same h.here (.map es clock)
    have hne : ∀ (W : World) (v : Value) (n : Nat) (xs : List Value), W.ownsRow B 3 1 v n xs → v.ownBlock = none ∨ v.ownBlock ≠ some r := fun W v n xs ho => by
      cases hv : v.ownBlock with
      | none => exact .inl rfl
      | some g => exact .inr (fun e => by injection e with e; have := (ho.lt g hv).1; have := h.rlt; omega)
    have hsz : (setBlock w r (.map es clock)).heap.size = w.heap.size := by simp [setBlock]
    have ho2 := ho0.kept hg2 (hne _ _ _ _ ho0)
    refine ⟨e0.val, e0.born, _, hrun, hg2, hsz, ho2, fun v' W3 h3 hg3 hb3 => ?_⟩
    have hh3 := hrb W3 _ e0.val _ ho2 hh2 hg3
    have hg4 := grown_setBlock hh3 (.map (es.setIfInBounds j { e0 with val := v' }) clock)
    obtain ⟨mb, mk⟩ := maps_set hj v'
    refine ⟨_, es.setIfInBounds j { e0 with val := v' }, clock, hst W3 v' hh3, hg4, ?_⟩
    have hj' := (Array.getElem?_eq_some_iff.1 hj).1
    have hval : ∀ (j1 : Nat) (e : MapEntry), j1 ≠ j → es[j1]? = some e → ∃ k, k < i ∧ e.key = tri s k ∧ w.ownsRow B 3 1 e.val (occ s i k).length (ocV s i k) := fun j1 e _ he => h.ents e (mem_ix.2 ⟨j1, he⟩)
    have hapart2 : ∀ (j1 : Nat) (e : MapEntry), j1 ≠ j → es[j1]? = some e → e.val.ownBlock ≠ v'.ownBlock := fun j1 e hn he => by
      obtain ⟨k, q1, q2, q3⟩ := hval j1 e hn he
      rcases hb3 with hb | hb
      · rw [hb]; exact h.apart j1 j e e0 he hj hn
      · rw [hb]; intro e2; have := (q3.lt _ e2).2; omega
    exact { here := heap_setBlock_same hh3 _
            rlt := h.rlt
            ble := Nat.le_trans h.ble (Nat.le_trans hg2.size (Nat.le_trans hg3.size hg4.size))
            st := stamped_set h.st hj v'
            ents := fun e he => by
              obtain ⟨j1, he1⟩ := mem_ix.1 he
              by_cases hn : j1 = j
              · subst hn
                rw [Array.getElem?_setIfInBounds_self_of_lt hj'] at he1
                injection he1 with he1
                subst he1
                have ho := hself W3 v' h3
                exact ⟨i, by omega, hk0, ho.kept hg4 (hne _ _ _ _ ho)⟩
              · rw [Array.getElem?_setIfInBounds_ne (fun e2 => hn e2.symm)] at he1
                obtain ⟨k, q1, q2, q3⟩ := hval j1 e hn he1
                have hd : ¬ same s i k 3 := fun hs => hn (keys_one h.st he1 hj (by rw [q2, hk0]; exact (tri_eq.2 hs).symm))
                have p2 := q3.kept hg2 (hne _ _ _ _ q3)
                have p3 := p2.kept hg3 (.inr (h.apart j1 j e e0 he1 hj hn))
                have p4 := p3.kept hg4 (hne _ _ _ _ p3)
                refine ⟨k, by omega, q2, ?_⟩
                rw [occ_no hd, ocV_no hd]
                exact p4
            has := fun k hk => by
              have hkey : tri s k ∈ es.toList.map (·.key) := by
                by_cases e : k = i
                · rw [e]; exact List.mem_map.2 ⟨e0, hjm, hk0⟩
                · obtain ⟨x, x1, x2⟩ := h.has k (by omega)
                  exact List.mem_map.2 ⟨x, x1, x2⟩
              rw [← mk] at hkey
              obtain ⟨x, x1, x2⟩ := List.mem_map.1 hkey
              exact ⟨x, x1, x2⟩
            apart := fun j1 j2 e1 e2 h1 h2 hn => by
              by_cases n1 : j1 = j
              · subst n1
                rw [Array.getElem?_setIfInBounds_self_of_lt hj'] at h1
                injection h1 with h1
                subst h1
                rw [Array.getElem?_setIfInBounds_ne hn] at h2
                exact fun e => hapart2 j2 e2 (fun e => hn e.symm) h2 e.symm
              · rw [Array.getElem?_setIfInBounds_ne (fun e => n1 e.symm)] at h1
                by_cases n2 : j2 = j
                · subst n2
                  rw [Array.getElem?_setIfInBounds_self_of_lt hj'] at h2
                  injection h2 with h2
                  subst h2
                  exact hapart2 j1 e1 n1 h1
                · rw [Array.getElem?_setIfInBounds_ne (fun e => n2 e.symm)] at h2
                  exact h.apart j1 j2 e1 e2 h1 h2 hn }
  · have hno : ∀ x ∈ es.toList, x.key ≠ tri s i := fun x hx e => hyes ⟨x, hx, e⟩
    have hns : ∀ k, k < i → ¬ same s k i 3 := fun k hk hs => by
      obtain ⟨e, e1, e2⟩ := h.has k hk
      exact hno e e1 (e2.trans (tri_eq.2 hs))
    obtain ⟨hrun, hst⟩ := entry_new triKey.law tri_map zero_ints h.here h.keyed h.st hkl hno
    have hg2 := grown_setBlock h.here (.map (es.push ⟨tri s i, .slice none 0 0, clock⟩) (clock + 1))
    have hh2 := heap_setBlock_same h.here (.map (es.push ⟨tri s i, .slice none 0 0, clock⟩) (clock + 1))
    have hne : ∀ (W : World) (v : Value) (n : Nat) (xs : List Value), W.ownsRow B 3 1 v n xs → v.ownBlock = none ∨ v.ownBlock ≠ some r := fun W v n xs ho => by
      cases hv : v.ownBlock with
      | none => exact .inl rfl
      | some g => exact .inr (fun e => by injection e with e; have := (ho.lt g hv).1; have := h.rlt; omega)
    have hsz : (setBlock w r (.map (es.push ⟨tri s i, .slice none 0 0, clock⟩) (clock + 1))).heap.size = w.heap.size := by simp [setBlock]
    have ho2 : (setBlock w r (.map (es.push ⟨tri s i, .slice none 0 0, clock⟩) (clock + 1))).ownsRow B 3 1 (.slice none 0 0) (occ s i i).length (ocV s i i) := by
      unfold ocV
      rw [occ_none hns]
      exact World.ownsRow_nil _ _ _ _
    refine ⟨_, clock, _, hrun, hg2, hsz, ho2, fun v' W3 h3 hg3 hb3 => ?_⟩
    have hh3 := hrb W3 _ _ _ ho2 hh2 hg3
    have hg4 := grown_setBlock hh3 (.map (es.push ⟨tri s i, v', clock⟩) (clock + 1))
    refine ⟨_, es.push ⟨tri s i, v', clock⟩, clock + 1, hst W3 v' hh3, hg4, ?_⟩
    have hbk : v'.ownBlock = some w.heap.size := by
      obtain ⟨g, hg⟩ := own_int h3 (by omega)
      rcases hb3 with hb | hb
      · rw [hg] at hb; simp [Value.ownBlock] at hb
      · rw [hb, hsz]
    have hapart2 : ∀ (j1 : Nat) (e : MapEntry), es[j1]? = some e → e.val.ownBlock ≠ v'.ownBlock := fun j1 e he => by
      obtain ⟨k, q1, q2, q3⟩ := h.ents e (mem_ix.2 ⟨j1, he⟩)
      rw [hbk]; intro e2; have := (q3.lt _ e2).2; omega
    exact { here := heap_setBlock_same hh3 _
            rlt := h.rlt
            ble := Nat.le_trans h.ble (Nat.le_trans hg2.size (Nat.le_trans hg3.size hg4.size))
            st := stamped_push h.st hno
            ents := fun e he => by
              simp only [Array.toList_push, List.mem_append, List.mem_singleton] at he
              rcases he with he | rfl
              · obtain ⟨k, q1, q2, q3⟩ := h.ents e he
                have hd : ¬ same s i k 3 := fun hs => hns k q1 (same_symm hs)
                have p2 := q3.kept hg2 (hne _ _ _ _ q3)
                have p3 := p2.kept hg3 (by
                  cases hv : e.val.ownBlock with
                  | none => exact .inl rfl
                  | some g => exact .inr (by simp [Value.ownBlock]))
                have p4 := p3.kept hg4 (hne _ _ _ _ p3)
                refine ⟨k, by omega, q2, ?_⟩
                rw [occ_no hd, ocV_no hd]
                exact p4
              · have ho := hself W3 v' h3
                exact ⟨i, by omega, rfl, ho.kept hg4 (hne _ _ _ _ ho)⟩
            has := fun k hk => by
              by_cases e : k = i
              · subst e; exact ⟨_, by simp; exact .inr rfl, rfl⟩
              · obtain ⟨x, x1, x2⟩ := h.has k (by omega)
                exact ⟨x, by simp only [Array.toList_push, List.mem_append]; exact .inl x1, x2⟩
            apart := fun j1 j2 e1 e2 h1 h2 hn => by
              rw [Array.getElem?_push] at h1 h2
              by_cases n1 : j1 = es.size
              · by_cases n2 : j2 = es.size
                · omega
                · rw [if_pos n1] at h1; rw [if_neg n2] at h2
                  injection h1 with h1; subst h1
                  exact fun e => hapart2 j2 e2 h2 e.symm
              · rw [if_neg n1] at h1
                by_cases n2 : j2 = es.size
                · rw [if_pos n2] at h2
                  injection h2 with h2; subst h2
                  exact hapart2 j1 e1 h1
                · rw [if_neg n2] at h2
                  exact h.apart j1 j2 e1 e2 h1 h2 hn }
end Go.Proofs.Ytnnmiolgffcgkaa
