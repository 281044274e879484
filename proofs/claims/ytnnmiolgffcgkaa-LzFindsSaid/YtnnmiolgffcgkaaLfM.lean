/- lz's chains: a map from three bytes to the places that they began at. -/
import Derived.Test.YtnnmiolgffcgkaaLfW
import Derived.WideKeyEntry
import Derived.WideKeyArr
import Derived.Maps.AppendAt
namespace Go.Proofs.Ytnnmiolgffcgkaa
open Go.RowKit Go.PlainAid Go.WideMaps Go.WideElems Go.MapKept
open Go.ChangeMaps (setBlock heap_setBlock_same heap_setBlock_other)

theorem keyOf_three {P : Program} {k e : TypeId} {q : IntKind} (A : ArrKey P k e 3) (he : P.underlying e = some (.int q)) (hsz : ∃ m, P.types.size = m + 1) {a b c : Int} (wa : (Lit.int q a).wf = true) (wb : (Lit.int q b).wf = true) (wc : (Lit.int q c).wf = true) :
    keyOf P k (.agg #[.int q a, .int q b, .int q c]) = some (.string (keyBytes [.int q a, .int q b, .int q c])) := by
  have hkt := A.keyType hsz
  obtain ⟨m, hm⟩ := hsz
  unfold keyOf
  simp only [A.hu]
  rw [if_pos (by simp [hkt, Value.formed, A.hu, A.size]), hm]
  unfold Program.keyLits
  simp only [A.hu, Value.cells]
  rw [if_pos (by rw [A.size]; rfl), show List.range 3 = [0, 1, 2] from rfl, List.mapM_cons, List.mapM_cons, List.mapM_cons, List.mapM_nil]
  simp [A.one, Program.keyLits, he, wa, wb, wc]

def tri (s : ByteArray) (k : Nat) : Value := .agg #[.int .u8 (bt s k), .int .u8 (bt s (k + 1)), .int .u8 (bt s (k + 2))]
theorem tri_eq {s : ByteArray} {a b : Nat} : tri s a = tri s b ↔ same s a b 3 := by
  constructor
  · intro h
    simp only [tri, Value.agg.injEq, Array.mk.injEq, List.cons.injEq, Value.int.injEq, true_and, and_true] at h
    intro j hj
    rcases (by omega : j = 0 ∨ j = 1 ∨ j = 2) with rfl | rfl | rfl
    · exact h.1
    · exact h.2.1
    · exact h.2.2
  · intro h
    unfold tri
    rw [show bt s a = bt s b from h 0 (by omega), h 1 (by omega), h 2 (by omega)]
theorem triKey : ArrKey Try.prog 138 5 3 := ⟨by kernel_rfl, by kernel_rfl, by kernel_rfl, by kernel_rfl⟩
theorem u8_kind : Try.prog.underlying 5 = some (.int .u8) := by kernel_rfl
theorem bt_wf (s : ByteArray) (k : Nat) : (Lit.int .u8 (bt s k)).wf = true := by
  have h1 := bt_nonneg s k
  have h2 := bt_le s k
  have a1 : IntKind.u8.min = 0 := by decide
  have a2 : IntKind.u8.max = 255 := by decide
  simp [Lit.wf, a1, a2, h1, h2]
theorem tri_key (s : ByteArray) (k : Nat) : ∃ l, keyOf Try.prog 138 (tri s k) = some l :=
  ⟨_, keyOf_three triKey u8_kind ⟨Try.prog.types.size - 1, by kernel_rfl⟩ (bt_wf s k) (bt_wf s (k + 1)) (bt_wf s (k + 2))⟩

section
variable {P : Program} {w : World} {t k e : TypeId} {b : Nat} {es : Array MapEntry} {clock : Nat}
theorem entry_new (K : KeyLaw P k) (ht : P.underlying t = some (.map k e)) {z : Value} (hz : ∀ u : World, (zeroValue e).run P u = .ok z u) (hb : w.heap[b]? = some (.map es clock)) (hk : ∀ x ∈ es.toList, ∃ l, keyOf P k x.key = some l) (hs : Stamped es clock)
    {key : Value} {kl : Lit} (hkey : keyOf P k key = some kl) (hno : ∀ x ∈ es.toList, x.key ≠ key) :
    (Instr.mapEntry t (.map (some b)) key).run P w = .ok (.tuple #[z, goInt clock]) (setBlock w b (.map (es.push ⟨key, z, clock⟩) (clock + 1))) ∧
      ∀ (w2 : World) (val : Value), w2.heap[b]? = some (.map (es.push ⟨key, z, clock⟩) (clock + 1)) → (Instr.entryStore t (.map (some b)) (goInt clock) val).run P w2 = .ok () (setBlock w2 b (.map (es.push ⟨key, val, clock⟩) (clock + 1))) := by
  rcases K.find w hkey es.toList hk with ⟨h1, _⟩ | ⟨j, e0, _, h2, h3⟩
  · refine ⟨by simp [Instr.mapEntry, run_underlying ht, MapKept.run_getObj_map hb, K.check w false hkey, h1, hz, MapKept.run_setObj_map _ hb, Result.andThen, setBlock], fun w2 val hw2 => ?_⟩
    have hidx : (es.push ⟨key, z, clock⟩).findIdx? (fun e => ((e.born : Nat) : Int) == ((clock : Nat) : Int)) = some es.size := by
      rw [findIdx_arr]
      exact findIdx_born (l := (es.push ⟨key, z, clock⟩).toList) (j := es.size) (e0 := ⟨key, z, clock⟩) (by
        simp only [Array.toList_push, List.map_append, List.map_cons, List.map_nil]
        refine List.nodup_append.2 ⟨hs.2.1, by simp, fun a ha c hc e1 => ?_⟩
        simp only [List.mem_singleton] at hc
        obtain ⟨x, hx, rfl⟩ := List.mem_map.1 ha
        have := hs.1 x hx
        omega) (by simp)
    have hmod : (es.push ⟨key, z, clock⟩).modify es.size (fun e => { e with val := val }) = es.push ⟨key, val, clock⟩ := by
      apply Array.ext'
      rw [Array.toList_modify, Array.toList_push, Array.toList_push, ← Array.length_toList, modify_last]
    simp [Instr.entryStore, MapKept.run_getObj_map hw2, asInt, asIntOf, goInt, hidx, hmod, MapKept.run_setObj_map _ hw2, Result.andThen, setBlock]
  · exact absurd h3 (hno e0 (List.mem_of_getElem? h2))
theorem entry_old (K : KeyLaw P k) (ht : P.underlying t = some (.map k e)) (hb : w.heap[b]? = some (.map es clock)) (hk : ∀ x ∈ es.toList, ∃ l, keyOf P k x.key = some l) (hs : Stamped es clock)
    {key : Value} {kl : Lit} (hkey : keyOf P k key = some kl) (hyes : ∃ x ∈ es.toList, x.key = key) :
    ∃ (j : Nat) (e0 : MapEntry), es[j]? = some e0 ∧ e0.key = key ∧ (Instr.mapEntry t (.map (some b)) key).run P w = .ok (.tuple #[e0.val, goInt e0.born]) (setBlock w b (.map es clock)) ∧
      ∀ (w2 : World) (val : Value), w2.heap[b]? = some (.map es clock) → (Instr.entryStore t (.map (some b)) (goInt e0.born) val).run P w2 = .ok () (setBlock w2 b (.map (es.setIfInBounds j { e0 with val := val }) clock)) := by
  rcases K.find w hkey es.toList hk with ⟨_, h2⟩ | ⟨j, e0, h1, h2, h3⟩
  · obtain ⟨x, hx1, hx2⟩ := hyes
    exact absurd hx2 (h2 x hx1)
  · have hj : es[j]? = some e0 := by simpa using h2
    have hsame : es.modify j (fun e => { e with key := key }) = es := by
      apply Array.ext'
      rw [Array.toList_modify, Go.ChangeMaps.modify_eq_set _ _ _ _ h2]
      have : ({ e0 with key := key } : MapEntry) = e0 := by rw [← h3]
      rw [this]
      exact set_self _ _ _ h2
    refine ⟨j, e0, hj, h3, ?_, fun w2 val hw2 => ?_⟩
    · simp [Instr.mapEntry, run_underlying ht, MapKept.run_getObj_map hb, K.check w false hkey, h1, hj, h3, K.stays w hkey, hsame, MapKept.run_setObj_map _ hb, Result.andThen, setBlock]
    · have hidx : es.findIdx? (fun e => ((e.born : Nat) : Int) == ((e0.born : Nat) : Int)) = some j := by
        rw [findIdx_arr]
        exact findIdx_born hs.2.1 h2
      have hmod : es.modify j (fun e => { e with val := val }) = es.setIfInBounds j { e0 with val := val } := by
        apply Array.ext'
        rw [Array.toList_modify, Array.toList_setIfInBounds, Go.ChangeMaps.modify_eq_set _ _ _ _ h2]
      simp [Instr.entryStore, MapKept.run_getObj_map hw2, asInt, asIntOf, goInt, hidx, hmod, MapKept.run_setObj_map _ hw2, Result.andThen, setBlock]
theorem look_any (K : KeyLaw P k) (ht : P.underlying t = some (.map k e)) {z : Value} (hz : ∀ u : World, (zeroValue e).run P u = .ok z u) (hb : w.heap[b]? = some (.map es clock)) (hk : ∀ x ∈ es.toList, ∃ l, keyOf P k x.key = some l)
    {key : Value} {kl : Lit} (hkey : keyOf P k key = some kl) :
    ((∀ x ∈ es.toList, x.key ≠ key) ∧ (Instr.lookup t (.map (some b)) key false).run P w = .ok z w) ∨ ∃ (j : Nat) (e0 : MapEntry), es[j]? = some e0 ∧ e0.key = key ∧ (Instr.lookup t (.map (some b)) key false).run P w = .ok e0.val w := by
  rcases K.find w hkey es.toList hk with ⟨h1, h2⟩ | ⟨j, e0, h1, h2, h3⟩
  · exact .inl ⟨h2, by simp [Instr.lookup, run_underlying ht, MapKept.run_getObj_map hb, K.check w _ hkey, h1, hz, Result.andThen]⟩
  · exact .inr ⟨j, e0, by simpa using h2, h3, by simp [Instr.lookup, run_underlying ht, MapKept.run_getObj_map hb, K.check w _ hkey, h1, Result.andThen]⟩
end
end Go.Proofs.Ytnnmiolgffcgkaa
