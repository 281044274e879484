/- container/heap's Init and Pop over the queue, walked. -/
import Derived.Test.YtcjidphichlhgaaPickD
namespace Go.Proofs.Ytcjidphichlhgaa
open Go.RowKit Pk

theorem getD_perm_ok {l l' : List OneV} (hp : l'.Perm l) (hok : ∀ x ∈ l, OneOk x) : ∀ x ∈ l', OneOk x := fun x hx => hok x (hp.mem_iff.1 hx)
/-- One step of building a heap. -/
theorem heap_step {l : List OneV} {k n : Nat} (h : HP l (k + 1) n) (hn : n ≤ l.length) (hok : ∀ x ∈ l, OneOk x) : HP (sift l k n) k n :=
  sift_heap _ l k k n (Nat.le_refl _) hn hok ⟨fun p c hp hpk hc hcp => h p c (by omega) hc hcp, fun p c hp hc _ _ => by rcases hc with e | e <;> omega, Nat.le_refl _⟩
theorem heap_start (l : List OneV) (n : Nat) : HP l (n / 2) n := fun p k hp hk hc => by rcases hc with e | e <;> omega
/-- The first is taken out. -/
theorem heap_pop {l : List OneV} {n : Nat} (h : HP l 0 n) (h1 : 1 ≤ n) (hn : n ≤ l.length) (hok : ∀ x ∈ l, OneOk x) :
    HP (sift (swp l 0 (n - 1)) 0 (n - 1)) 0 (n - 1) ∧ (sift (swp l 0 (n - 1)) 0 (n - 1)).Perm l ∧ (sift (swp l 0 (n - 1)) 0 (n - 1))[n - 1]? = some (l.getD 0 default) ∧
      (l.getD 0 default :: (sift (swp l 0 (n - 1)) 0 (n - 1)).take (n - 1)).Perm (l.take n) := by
  have hsl : (swp l 0 (n - 1)).length = l.length := swp_len _ _ _
  have hsp := swp_perm (l := l) (i := 0) (j := n - 1) (by omega) (by omega)
  obtain ⟨p1, p2⟩ := sift_perm _ (swp l 0 (n - 1)) 0 (n - 1) (Nat.le_refl _) (by omega)
  have hsn := sift_len _ (swp l 0 (n - 1)) 0 (n - 1) (Nat.le_refl _)
  have hg := fun k (hk : k < l.length) (hn1 : n - 1 < l.length) => swp_get (l := l) (i := 0) (j := n - 1) (k := k) (by omega) hn1
  have htop : (sift (swp l 0 (n - 1)) 0 (n - 1))[n - 1]? = some (l.getD 0 default) := by
    have e1 := p2 (n - 1) (Nat.le_refl _)
    rw [hg (n - 1) (by omega) (by omega), if_pos rfl] at e1
    have hlt : n - 1 < (sift (swp l 0 (n - 1)) 0 (n - 1)).length := by omega
    rw [List.getElem?_eq_getElem hlt]
    rw [List.getD_eq_getElem?_getD, List.getElem?_eq_getElem hlt] at e1
    exact congrArg some e1
  refine ⟨sift_heap _ _ 0 0 _ (Nat.le_refl _) (by omega) (getD_perm_ok hsp hok) ⟨fun p k hp hpk hk hc => ?_, fun p k _ hc _ _ => by rcases hc with e | e <;> omega, Nat.le_refl _⟩, p1.trans hsp, htop, ?_⟩
  · have hpl : p < k := by rcases hc with e | e <;> omega
    rw [hg p (by omega) (by omega), hg k (by omega) (by omega), if_neg (by omega), if_neg hpk, if_neg (by omega), if_neg (by omega)]
    exact h p k hp (by omega) hc
  · -- the front n of the new list is a permutation of the front n of the old; its last is the one taken out
    have hdrop : (sift (swp l 0 (n - 1)) 0 (n - 1)).drop n = l.drop n := by
      apply List.ext_getElem
      · simp [hsn, hsl]
      · intro i h2 h3
        rw [List.getElem_drop, List.getElem_drop]
        simp only [List.length_drop] at h2 h3
        have e1 := p2 (n + i) (by omega)
        rw [hg (n + i) (by omega) (by omega), if_neg (by omega), if_neg (by omega)] at e1
        rw [List.getD_eq_getElem?_getD, List.getD_eq_getElem?_getD, List.getElem?_eq_getElem (by omega), List.getElem?_eq_getElem (by omega)] at e1
        simpa using e1
    have hfront : ((sift (swp l 0 (n - 1)) 0 (n - 1)).take n).Perm (l.take n) := by
      have hp : ((sift (swp l 0 (n - 1)) 0 (n - 1)).take n ++ l.drop n).Perm (l.take n ++ l.drop n) := by
        rw [← hdrop, List.take_append_drop]
        rw [hdrop, List.take_append_drop]
        exact p1.trans hsp
      exact (List.perm_append_right_iff _).1 hp
    refine List.Perm.trans ?_ hfront
    have htk : (sift (swp l 0 (n - 1)) 0 (n - 1)).take n = (sift (swp l 0 (n - 1)) 0 (n - 1)).take (n - 1) ++ [l.getD 0 default] := by
      obtain ⟨m, rfl⟩ : ∃ m, n = m + 1 := ⟨n - 1, by omega⟩
      rw [Nat.add_sub_cancel] at htop ⊢
      rw [List.take_add_one, htop]; rfl
    rw [htk]
    exact (List.perm_append_comm (l₁ := [l.getD 0 default]))
def InitPost (w0 : World) (Q b o c N n : Nat) (l : List OneV) (w' : World) : Prop := ∃ l', QSt w0 Q b o c N n l' w' ∧ l'.Perm l ∧ HP l' 0 n
set_option maxRecDepth 20000 in
set_option maxHeartbeats 1000000 in
theorem init_any (w0 : World) (Q b o c N : Nat) (l : List OneV) (w : World) (h : QSt w0 Q b o c N N l w) (hN : N ≤ 1000) (hok : ∀ x ∈ l, OneOk x) :
    Calls Try.prog 7 #[.iface 32 (.pointer (some ⟨Q, 0, none⟩))] w fun e w' => e = .returned (.tuple #[]) ∧ InitPost w0 Q b o c N N l w' := by
  have H := Lib.hid h
  have HOK := Lib.hid hok
  have HLE := Lib.hid (len_any (some ⟨b, o, none⟩) N c w)
  have mL : ∀ k, (method (k + 1) 32 (.pointer (some ⟨Q, 0, none⟩)) "Len").run Try.prog w = .ok (8, .slice (some ⟨b, o, none⟩) N c) w := fun k => run_meth meth_len k Q _ N c w h.q
  have n1 : (N : Int) ≤ 1000 := by omega
  obtain ⟨M, hM⟩ : ∃ M, M = N / 2 := ⟨_, rfl⟩
  have hMI : (N : Int) / 2 = (M : Int) := by omega
  have hMN : (M : Int) ≤ (N : Int) := by omega
  have HM := Lib.hid hM
  clear h hok hM
  go_enter Try.func7, Try.ntmps7
  go_wp2_with (go_at_call 8; refine HLE.out.mono ?_; rintro e w' ⟨rfl, rfl⟩)
  go_loopw [3] (fun v wr => ∃ (z : Int) (k : Nat) (l' : List OneV), v = .int .i64 z ∧ -1 ≤ z ∧ z ≤ 1000 ∧ Hid (z = (k : Int) - 1) ∧ Hid (QSt w0 Q b o c N N l' wr) ∧ Hid (l'.Perm l) ∧ Hid (HP l' k N)) (fun v _ => (intOf v + 1).toNat)
  case atStart => exact ⟨(M : Int) - 1, M, l, rfl, by omega, by omega, rfl, H.out, List.Perm.refl _, by rw [HM.out]; exact heap_start _ _⟩
  case round =>
    obtain ⟨z, k, l', rfl, hz1, hz2, hzk, HQ, HP', HH⟩ := hrel
    by_cases hz : 0 ≤ z
    · obtain ⟨i, rfl⟩ : ∃ i : Nat, z = i := ⟨z.toNat, by omega⟩
      have hki : k = i + 1 := by have := hzk.out; omega
      have HOK2 := Lib.hid (getD_perm_ok HP'.out HOK.out)
      have HD := Lib.hid (down_any w0 Q b o c N N N i l' wr HQ.out (Nat.le_refl _) hN (by omega) HOK2.out)
      have HH2 : Hid (HP (sift l' i N) i N) := heap_step (by rw [← hki]; exact HH.out) (by rw [HQ.out.len]; exact Nat.le_refl _) HOK2.out
      have HP2 : Hid ((sift l' i N).Perm l) := (sift_perm _ l' i N (Nat.le_refl _) (by rw [HQ.out.len]; exact Nat.le_refl _)).1.trans HP'.out
      clear hki
      go_wp2_with (go_at_call 12; refine HD.out.mono ?_; rintro e w2 ⟨B, rfl, hq2⟩)
      go_roundw
      case rel => exact ⟨(i : Int) - 1, i, sift l' i N, rfl, by omega, by omega, rfl, hq2, HP2, HH2⟩
      case measure => (simp [intOf])
    · have hk0 : k = 0 := by have := hzk.out; omega
      subst hk0
      go_wp2
      go_end0
      exact ⟨rfl, l', HQ.out, HP'.out, HH.out⟩
def HpopPost (w0 : World) (Q b o c N n : Nat) (l : List OneV) (e : Ending) (w' : World) : Prop := ∃ l', e = .returned (.iface 30 (.agg #[.int .i64 (l.getD 0 default).at_, .int .i64 (l.getD 0 default).live, .int .i64 (l.getD 0 default).age])) ∧ QSt w0 Q b o c N (n - 1) l' w' ∧ l'.Perm l ∧ HP l' 0 (n - 1) ∧ (l.getD 0 default :: l'.take (n - 1)).Perm (l.take n)
set_option maxRecDepth 20000 in
set_option maxHeartbeats 1000000 in
theorem hpop_any (w0 : World) (Q b o c N n : Nat) (l : List OneV) (w : World) (h : QSt w0 Q b o c N n l w) (hN : N ≤ 1000) (h1 : 1 ≤ n) (hh : HP l 0 n) (hok : ∀ x ∈ l, OneOk x) :
    Calls Try.prog 9 #[.iface 32 (.pointer (some ⟨Q, 0, none⟩))] w (HpopPost w0 Q b o c N n l) := by
  have hnN := h.le
  have hlen := h.len
  obtain ⟨q1, q2, q3, q4⟩ := heap_pop hh h1 (by omega) hok
  obtain ⟨m, hm⟩ : ∃ m, m = n - 1 := ⟨_, rfl⟩
  have hmI : (n : Int) - 1 = (m : Int) := by omega
  have n1 : (n : Int) ≤ 1000 := by omega
  have hmn : m < n := by omega
  rw [← hm] at q1 q2 q3 q4
  have HLE := Lib.hid (len_any (some ⟨b, o, none⟩) n c w)
  have HSW := Lib.hid (swap_any w0 Q b o c N n 0 m l w h (by omega) hmn)
  have HDN : Hid (∀ W, QSt w0 Q b o c N n (swp l 0 m) W → Calls Try.prog 12 #[.iface 32 (.pointer (some ⟨Q, 0, none⟩)), .int .i64 0, .int .i64 m] W (DnPost w0 Q b o c N n (sift (swp l 0 m) 0 m))) := fun W hW => down_any w0 Q b o c N n m 0 (swp l 0 m) W hW (by omega) hN (by omega) (getD_perm_ok (swp_perm (by omega) (by omega)) hok)
  have HPP : Hid (∀ W, QSt w0 Q b o c N n (sift (swp l 0 m) 0 m) W → Calls Try.prog 35 #[.pointer (some ⟨Q, 0, none⟩)] W (PopPost w0 Q b o c N n (sift (swp l 0 m) 0 m) (l.getD 0 default))) := fun W hW => pop_any w0 Q b o c N n _ _ W hW h1 (by rw [← hm]; exact q3)
  have mL : ∀ k, (method (k + 1) 32 (.pointer (some ⟨Q, 0, none⟩)) "Len").run Try.prog w = .ok (8, .slice (some ⟨b, o, none⟩) n c) w := fun k => run_meth meth_len k Q _ n c w h.q
  have mS : ∀ k, (method (k + 1) 32 (.pointer (some ⟨Q, 0, none⟩)) "Swap").run Try.prog w = .ok (34, .slice (some ⟨b, o, none⟩) n c) w := fun k => run_meth meth_swap k Q _ n c w h.q
  have mP : ∀ k W, (method (k + 1) 32 (.pointer (some ⟨Q, 0, none⟩)) "Pop").run Try.prog W = .ok (35, .pointer (some ⟨Q, 0, none⟩)) W := fun k W => run_methp meth_pop k Q W
  have Q1 := Lib.hid q1
  have Q2 := Lib.hid q2
  have Q4 := Lib.hid q4
  have HM := Lib.hid hm
  clear h hok hh q1 q2 q3 q4 hm hlen
  go_enter Try.func9, Try.ntmps9
  go_wp2_with (first
    | (go_at_call 8; refine HLE.out.mono ?_; rintro e w' ⟨rfl, rfl⟩)
    | (go_at_call 34; refine HSW.out.mono ?_; rintro e w2 ⟨rfl, hq2⟩; have HQ2 := Lib.hid hq2; clear hq2)
    | (go_at_call 12; refine (HDN.out _ HQ2.out).mono ?_; rintro e w3 ⟨B, rfl, hq3⟩; have HQ3 := Lib.hid hq3; clear hq3)
    | (go_at_call 35; refine (HPP.out _ HQ3.out).mono ?_; rintro e w4 ⟨rfl, hq4⟩))
  go_ret
  exact ⟨_, rfl, hq4, Q2.out, by rw [← HM.out]; exact Q1.out, by rw [← HM.out]; exact Q4.out⟩
end Go.Proofs.Ytcjidphichlhgaa
