/- file.Check and linenref.Data, walked. -/
import Derived.Test.YtfhgglghofhndaaFileP
import Derived.Test.YtfhgglghofhndaaBlk
import Derived.Test.YtfhgglghofhndaaBtP
import Derived.Deep.QuietTactic
import Derived.BigQuiet
namespace Go.Proofs.Ytfhgglghofhndaa
open Go.RowKit

set_option maxRecDepth 20000 in
theorem parts_any (sz : Nat) (h : sz ≤ 8192) (w : World) : Calls Try.prog 51 #[.int .i64 sz] w fun e w' => e = .returned (.int .i64 (npt sz : Nat)) ∧ w' = w := by
  have HE : Hid ((((sz : Int) + 512 - 1) / 512) = ((npt sz : Nat) : Int)) := by unfold npt; simp only [Hid]; omega
  have hs : (sz : Int) ≤ 8192 := by omega
  clear h
  go_enter Try.func51, Try.ntmps51
  go_wp2
  go_ret
  exact ⟨ret_i1 HE.out, rfl⟩
set_option maxRecDepth 20000 in
theorem long_any (sz i : Nat) (h : sz ≤ 8192) (hi : i < npt sz) (w : World) : Calls Try.prog 52 #[.int .i64 sz, .int .i64 i] w fun e w' => e = .returned (.int .i64 (wid sz i : Nat)) ∧ w' = w := by
  have hi2 : (i : Int) ≤ 16 := by unfold npt at hi; omega
  have hs : (sz : Int) ≤ 8192 := by omega
  have H1 : Hid (((sz : Int) - (i : Int) * 512 < 512 → (sz : Int) - (i : Int) * 512 = ((wid sz i : Nat) : Int)) ∧ (512 ≤ (sz : Int) - (i : Int) * 512 → (512 : Int) = ((wid sz i : Nat) : Int))) := by unfold wid; simp only [Hid]; unfold npt at hi; constructor <;> intro <;> omega
  clear hi h
  by_cases h1 : (sz : Int) - (i : Int) * 512 < 512
  · go_enter Try.func52, Try.ntmps52
    go_wp2
    go_ret
    exact ⟨ret_i1 (H1.out.1 h1), rfl⟩
  · have h2 : 512 ≤ (sz : Int) - (i : Int) * 512 := by omega
    go_enter Try.func52, Try.ntmps52
    go_wp2
    go_ret
    exact ⟨ret_i1 (H1.out.2 h2), rfl⟩
set_option maxRecDepth 20000 in
theorem width_any (sz i : Nat) (h : sz ≤ 8192) (hi : i ≤ 64) (w : World) : Calls Try.prog 53 #[.int .i64 sz, .int .i64 i] w fun e w' => e = .returned (.int .i64 (wid sz i : Nat)) ∧ w' = w := by
  have hi2 : (i : Int) ≤ 64 := by omega
  have hs : (sz : Int) ≤ 8192 := by omega
  have H1 : Hid ((0 < (sz : Int) - 512 * (i : Int) → (sz : Int) - 512 * (i : Int) < 512 → (sz : Int) - 512 * (i : Int) = ((wid sz i : Nat) : Int)) ∧ (512 ≤ (sz : Int) - 512 * (i : Int) → (512 : Int) = ((wid sz i : Nat) : Int)) ∧ ((sz : Int) - 512 * (i : Int) ≤ 0 → (0 : Int) = ((wid sz i : Nat) : Int))) := by unfold wid; simp only [Hid]; exact ⟨fun _ _ => by omega, fun _ => by omega, fun _ => by omega⟩
  clear hi h
  by_cases h1 : (sz : Int) - 512 * (i : Int) < 512
  · by_cases h0 : 0 < (sz : Int) - 512 * (i : Int)
    · go_enter Try.func53, Try.ntmps53
      go_wp2
      go_ret
      exact ⟨ret_i1 (H1.out.1 h0 h1), rfl⟩
    · have h0' : (sz : Int) - 512 * (i : Int) ≤ 0 := by omega
      go_enter Try.func53, Try.ntmps53
      go_wp2
      go_ret
      exact ⟨ret_i1 (H1.out.2.2 h0'), rfl⟩
  · have h2 : 512 ≤ (sz : Int) - 512 * (i : Int) := by omega
    go_enter Try.func53, Try.ntmps53
    go_wp2
    go_ret
    exact ⟨ret_i1 (H1.out.2.1 h2), rfl⟩

theorem dat_cells {w w1 : World} {sz : Int} {A : Option Addr} {n c : Nat} (h : w1.heap[w.heap.size]? = some (.cells #[.int .i64 sz, .slice A n c] 24 (0, 0))) : w1.cell? ⟨w.heap.size, 0, none⟩ = some (.int .i64 sz) ∧ w1.cell? ⟨w.heap.size, 1, none⟩ = some (.slice A n c) := ⟨row_cell h 0, row_cell h 1⟩
theorem emp_ne {t : ByteArray} (h : t.size ≠ 0) : (t.toList == (⟨#[]⟩ : ByteArray).toList) = false := str_ne fun e => h (by rw [e]; rfl)
theorem emp_ne2 {t : ByteArray} (h : t.size ≠ 0) : ¬ t.toList = [] := fun e => h (by
  have : t = ⟨#[]⟩ := str_inj (by rw [e, Go.Lib.toList_data])
  rw [this]; rfl)
theorem emp_ne3 {t : ByteArray} (h : t.size ≠ 0) : t.toList.isEmpty = false := by
  have h1 := emp_ne2 h
  cases hl : t.toList with
  | nil => exact absurd hl h1
  | cons a b => rfl
theorem part_bad {sz : Nat} {ps : List ByteArray} {i : Nat} {p : ByteArray} (e : ps[i]? = some p) (h0 : p.size ≠ 0) (h1 : p.size ≠ wid sz i) : ¬ PartsOk sz ps := fun h => by
  rcases h.2 i p e with h | h
  · exact h0 h
  · exact h1 h
theorem parts_good {sz : Nat} {ps : List ByteArray} (hl : ps.length = npt sz) (h : ∀ q, q < ps.length → ∀ p, ps[q]? = some p → PartOk sz q p) : PartsOk sz ps := ⟨hl, fun i p e => h i (List.getElem?_eq_some_iff.1 e).1 p e⟩

set_option maxRecDepth 20000 in
set_option maxHeartbeats 1000000 in
theorem fcheck_any (sz : Int) (A : Option Addr) (n c : Nat) (ps : List ByteArray) (w : World) (r : RowsIn w w.heap.size A n c (fun z => [.string z]) 1 ps) :
    Calls Try.prog 15 #[.agg #[.int .i64 sz, .slice A n c]] w fun e w' => e = .returned (.int .i64 (datE sz ps)) ∧ Below w.heap.size w w' := by
  have hn := r.len
  subst hn
  have htop : (ps.length : Int) ≤ 9223372036854775807 := by have h1 := r.le; have h2 := r.top; unfold maxLen at h2; omega
  obtain ⟨wa, hwa⟩ : ∃ wa, wa = w.alloc (.cells #[.int .i64 sz, .slice A ps.length c] 24) := ⟨_, rfl⟩
  have hba : Below w.heap.size w wa := by rw [hwa]; exact (Below.refl _ _).alloc (Nat.le_refl _) _
  have hrb : wa.heap[w.heap.size]? = some (.cells #[.int .i64 sz, .slice A ps.length c] 24 (0, 0)) := by rw [hwa]; exact heap_alloc_new w _
  obtain ⟨c0, c1⟩ := dat_cells hrb
  have R := Lib.hid (r.below hba)
  have HWA := Lib.hid hwa
  have HBA := Lib.hid hba
  have HRB := Lib.hid hrb
  clear r hba hrb hwa
  by_cases h : sz < 0 ∨ 4096 < sz
  · have F := Lib.hid (datE_large (ps := ps) h)
    rcases h with h | h
    · go_enter Try.func15, Try.ntmps15
      go_wp2
      go_ret
      exact ⟨by rw [F.out] <;> rfl, by rw [← HWA.out]; exact HBA.out⟩
    · have h' : ¬ sz < 0 := by omega
      go_enter Try.func15, Try.ntmps15
      go_wp2
      go_ret
      exact ⟨by rw [F.out] <;> rfl, by rw [← HWA.out]; exact HBA.out⟩
  · have h1 : 0 ≤ sz := by omega
    have h2 : sz ≤ 4096 := by omega
    obtain ⟨k, rfl⟩ : ∃ k : Nat, sz = (k : Int) := ⟨sz.toNat, by omega⟩
    have hk : k ≤ 4096 := by omega
    have HP := Lib.hid (parts_any k (by omega))
    have HK := Lib.hid hk
    have FB : Hid (¬ PartsOk k ps → datE k ps = 4) := fun hb => datE_bad h hb
    have FG : Hid (PartsOk k ps → datE k ps = 0) := fun hb => datE_ok h hb
    clear h hk
    by_cases hl : ps.length = npt k
    · have HL := Lib.hid hl
      have hle : (ps.length : Int) = ((npt k : Nat) : Int) := by omega
      rw [← hl] at HP
      have hpl : ps.length ≤ 8 := by rw [hl]; unfold npt; have := HK.out; omega
      have HPL := Lib.hid hpl
      clear hl hle hpl
      go_enter Try.func15, Try.ntmps15
      go_wp2
      go_quiet ((go_at_call 51; exact Calls.quiet_of_same (HP.out _)))
      go_wp2
      have hb0 : Below wa.heap.size wa ((w.alloc (.cells #[.int .i64 k, .slice A ps.length c] 24)).drewN nq) := by rw [← HWA.out]; exact below_drewN (Below.refl _ _) _
      have HB0 := Lib.hid hb0
      clear hb0
      go_loopw [23] (fun v23 wr => ∃ i : Nat, i ≤ ps.length ∧ v23 = .int .i64 i ∧ Below wa.heap.size wa wr ∧ Hid (∀ q, q < i → ∀ p, ps[q]? = some p → PartOk k q p)) (fun v23 _ => ps.length - (intOf v23).toNat)
      case atStart => exact ⟨0, Nat.zero_le _, rfl, HB0.out, fun q hq => absurd hq (Nat.not_lt_zero q)⟩
      case round =>
        obtain ⟨i, hi, rfl, hb, HI⟩ := hrel
        obtain ⟨wq, rfl⟩ : ∃ z : World, z = wr := ⟨_, rfl⟩
        have HB := Lib.hid hb
        obtain ⟨c0', c1'⟩ := dat_cells (row_below HRB.out (row_lt HRB.out) hb)
        clear hb
        have HBE : Hid (Below w.heap.size w wq) := HBA.out.trans (HB.out.mono HBA.out.size)
        by_cases hlt : i < ps.length
        · obtain ⟨p, e1⟩ : ∃ p, ps[i]? = some p := ⟨_, List.getElem?_eq_getElem hlt⟩
          have E1 := Lib.hid e1
          obtain ⟨b, o, rfl, hbB, hc⟩ := ((R.out.more HBA.out.size).below HB.out).one e1
          have hil : (i : Int) < (ps.length : Int) := by omega
          have HLO := Lib.hid (long_any k i (by have := HK.out; omega) (by rw [← HL.out]; exact hlt))
          clear e1 c0 c1
          by_cases hp : p.size = 0
          · obtain rfl : p = ⟨#[]⟩ := by
              have := size_zero hp; exact this
            have F : Hid (∀ q, q < i + 1 → ∀ p, ps[q]? = some p → PartOk k q p) := fun q hq p hp => by
              rcases Nat.lt_or_ge q i with h | h
              · exact HI.out q h p hp
              · obtain rfl : q = i := by omega
                rw [E1.out] at hp; injection hp with hp; subst hp; exact .inl rfl
            clear hp
            go_wp2
            go_roundw
            case rel => exact ⟨i + 1, by omega, by go_num, HB.out, F.out⟩
            case measure => (simp [intOf]; try omega)
          · have hne := emp_ne hp
            have hne2 := emp_ne2 hp
            have hne3 := emp_ne3 hp
            have HPZ := Lib.hid hp
            clear hp
            by_cases hw : p.size = wid k i
            · have F : Hid (∀ q, q < i + 1 → ∀ p, ps[q]? = some p → PartOk k q p) := fun q hq p hp => by
                rcases Nat.lt_or_ge q i with h | h
                · exact HI.out q h p hp
                · obtain rfl : q = i := by omega
                  rw [E1.out] at hp; injection hp with hp; subst hp; exact .inr hw
              rw [← hw] at HLO
              clear hw
              go_wp2_with (go_at_call 52; refine (HLO.out _).mono ?_; rintro e w' ⟨rfl, hw'⟩; rw [hw']; clear hw')
              go_roundw
              case rel => exact ⟨i + 1, by omega, by go_num, HB.out, F.out⟩
              case measure => (simp [intOf]; try omega)
            · have F := Lib.hid (FB.out (part_bad E1.out HPZ.out hw))
              have hw2 : ((p.size : Int) != ((wid k i : Nat) : Int)) = true := bne_iff_ne.2 (by omega)
              clear hw
              generalize wid k i = W at *
              go_wp2_with (go_at_call 52; refine (HLO.out _).mono ?_; rintro e w' ⟨rfl, hw'⟩; rw [hw']; clear hw')
              go_ret
              exact ⟨by rw [F.out] <;> rfl, HBE.out⟩
        · have F := Lib.hid (FG.out (parts_good HL.out fun q hq => HI.out q (by omega)))
          have hil : ¬ (i : Int) < (ps.length : Int) := by omega
          go_wp2
          go_ret
          exact ⟨by rw [F.out] <;> rfl, HBE.out⟩
    · have F := Lib.hid (FB.out fun h => hl h.1)
      have hne : ((ps.length : Int) != ((npt k : Nat) : Int)) = true := bne_iff_ne.2 (by omega)
      clear hl
      generalize npt k = N at *
      go_enter Try.func15, Try.ntmps15
      go_wp2
      go_quiet ((go_at_call 51; exact Calls.quiet_of_same (HP.out _)))
      go_wp2
      go_ret
      exact ⟨by rw [F.out] <;> rfl, by rw [← HWA.out]; exact below_drewN HBA.out _⟩

set_option maxRecDepth 20000 in
set_option maxHeartbeats 1000000 in
theorem rdata_any (sz : Int) (A : Option Addr) (n c : Nat) (ps : List ByteArray) (w : World) (r : RowsIn w w.heap.size A n c (fun z => [.string z]) 1 ps) :
    Calls Try.prog 16 #[.agg #[.int .i64 sz, .slice A n c]] w fun e w' => e = .returned (.int .i64 (datE sz ps)) ∧ Below w.heap.size w w' := by
  have hn := r.len
  subst hn
  have htop : (ps.length : Int) ≤ 9223372036854775807 := by have h1 := r.le; have h2 := r.top; unfold maxLen at h2; omega
  obtain ⟨wa, hwa⟩ : ∃ wa, wa = w.alloc (.cells #[.int .i64 sz, .slice A ps.length c] 24) := ⟨_, rfl⟩
  have hba : Below w.heap.size w wa := by rw [hwa]; exact (Below.refl _ _).alloc (Nat.le_refl _) _
  have hrb : wa.heap[w.heap.size]? = some (.cells #[.int .i64 sz, .slice A ps.length c] 24 (0, 0)) := by rw [hwa]; exact heap_alloc_new w _
  obtain ⟨c0, c1⟩ := dat_cells hrb
  have R := Lib.hid (r.below hba)
  have HWA := Lib.hid hwa
  have HBA := Lib.hid hba
  have HRB := Lib.hid hrb
  clear r hba hrb hwa
  by_cases h : sz < 0 ∨ 4096 < sz
  · have F := Lib.hid (datE_large (ps := ps) h)
    rcases h with h | h
    · go_enter Try.func16, Try.ntmps16
      go_wp2
      go_ret
      exact ⟨by rw [F.out] <;> rfl, by rw [← HWA.out]; exact HBA.out⟩
    · have h' : ¬ sz < 0 := by omega
      go_enter Try.func16, Try.ntmps16
      go_wp2
      go_ret
      exact ⟨by rw [F.out] <;> rfl, by rw [← HWA.out]; exact HBA.out⟩
  · have h1 : 0 ≤ sz := by omega
    have h2 : sz ≤ 4096 := by omega
    obtain ⟨k, rfl⟩ : ∃ k : Nat, sz = (k : Int) := ⟨sz.toNat, by omega⟩
    have hk : k ≤ 4096 := by omega
    have HK := Lib.hid hk
    have FB : Hid (¬ PartsOk k ps → datE k ps = 4) := fun hb => datE_bad h hb
    have FG : Hid (PartsOk k ps → datE k ps = 0) := fun hb => datE_ok h hb
    have HN : Hid (npt k ≤ 8 ∧ (∀ i, i < npt k ↔ 512 * i < k)) := ⟨by unfold npt; omega, fun i => by unfold npt; omega⟩
    clear h hk
    go_enter Try.func16, Try.ntmps16
    go_wp2
    rw [← HWA.out]
    go_loop [3] (fun v3 => ∃ i : Nat, i ≤ npt k ∧ v3 = .int .i64 i) (fun v3 => npt k - (intOf v3).toNat)
    case atStart => exact ⟨0, Nat.zero_le _, rfl⟩
    case round =>
      obtain ⟨i, hi, rfl⟩ := hrel
      by_cases hlt : i < npt k
      · have i1 : 512 * (i : Int) < (k : Int) := by have := (HN.out.2 i).1 hlt; omega
        have i2 : (i : Int) ≤ 8 := by have := HN.out.1; omega
        go_wp2
        go_round
        case rel => exact ⟨i + 1, by omega, by go_num⟩
        case measure => (simp [intOf]; try omega)
      · obtain rfl : i = npt k := by omega
        have i1 : ¬ 512 * ((npt k : Nat) : Int) < (k : Int) := by have := (HN.out.2 (npt k)).2; omega
        have i2 : ((npt k : Nat) : Int) ≤ 8 := by have := HN.out.1; omega
        by_cases hl : ps.length = npt k
        · have HL := Lib.hid hl
          have hll : ((ps.length : Int) != ((npt k : Nat) : Int)) = false := by rw [hl]; simp
          have hpl : ps.length ≤ 8 := by rw [hl]; exact HN.out.1
          clear hl hi hlt
          go_wp2
          go_loop [29] (fun v29 => ∃ i : Nat, i ≤ ps.length ∧ v29 = .int .i64 i ∧ Hid (∀ q, q < i → ∀ p, ps[q]? = some p → PartOk k q p)) (fun v29 => ps.length - (intOf v29).toNat)
          case atStart => exact ⟨0, Nat.zero_le _, rfl, fun q hq => absurd hq (Nat.not_lt_zero q)⟩
          case round =>
            obtain ⟨i, hi, rfl, HI⟩ := hrel
            by_cases hlt : i < ps.length
            · obtain ⟨p, e1⟩ : ∃ p, ps[i]? = some p := ⟨_, List.getElem?_eq_getElem hlt⟩
              have E1 := Lib.hid e1
              obtain ⟨b, o, rfl, hbB, hc⟩ := R.out.one e1
              have hil : (i : Int) < (ps.length : Int) := by omega
              have HLO := Lib.hid (width_any k i (by have := HK.out; omega) (by omega))
              clear e1
              by_cases hp : p.size = 0
              · obtain rfl : p = ⟨#[]⟩ := by
                  have := size_zero hp; exact this
                have F : Hid (∀ q, q < i + 1 → ∀ p, ps[q]? = some p → PartOk k q p) := fun q hq p hp => by
                  rcases Nat.lt_or_ge q i with h | h
                  · exact HI.out q h p hp
                  · obtain rfl : q = i := by omega
                    rw [E1.out] at hp; injection hp with hp; subst hp; exact .inl rfl
                clear hp
                go_wp2
                go_round
                case rel => exact ⟨i + 1, by omega, by go_num, F.out⟩
                case measure => (simp [intOf]; try omega)
              · have hne := emp_ne hp
                have hne2 := emp_ne2 hp
                have hne3 := emp_ne3 hp
                have HPZ := Lib.hid hp
                clear hp
                by_cases hw : p.size = wid k i
                · have F : Hid (∀ q, q < i + 1 → ∀ p, ps[q]? = some p → PartOk k q p) := fun q hq p hp => by
                    rcases Nat.lt_or_ge q i with h | h
                    · exact HI.out q h p hp
                    · obtain rfl : q = i := by omega
                      rw [E1.out] at hp; injection hp with hp; subst hp; exact .inr hw
                  rw [← hw] at HLO
                  clear hw
                  go_wp2_with (go_at_call 53; refine (HLO.out _).mono ?_; rintro e w' ⟨rfl, hw'⟩; rw [hw']; clear hw')
                  go_round
                  case rel => exact ⟨i + 1, by omega, by go_num, F.out⟩
                  case measure => (simp [intOf]; try omega)
                · have F := Lib.hid (FB.out (part_bad E1.out HPZ.out hw))
                  have hw2 : ((p.size : Int) != ((wid k i : Nat) : Int)) = true := bne_iff_ne.2 (by omega)
                  clear hw
                  generalize wid k i = W at *
                  go_wp2_with (go_at_call 53; refine (HLO.out _).mono ?_; rintro e w' ⟨rfl, hw'⟩; rw [hw']; clear hw')
                  go_ret
                  exact ⟨by rw [F.out] <;> rfl, HBA.out⟩
            · have F := Lib.hid (FG.out (parts_good HL.out fun q hq => HI.out q (by omega)))
              have hil : ¬ (i : Int) < (ps.length : Int) := by omega
              go_wp2
              go_ret
              exact ⟨by rw [F.out] <;> rfl, HBA.out⟩
        · have F := Lib.hid (FB.out fun h => hl h.1)
          have hne : ((ps.length : Int) != ((npt k : Nat) : Int)) = true := bne_iff_ne.2 (by omega)
          clear hl hi hlt HN
          generalize npt k = N at *
          go_wp2
          go_ret
          exact ⟨by rw [F.out] <;> rfl, HBA.out⟩
end Go.Proofs.Ytfhgglghofhndaa
