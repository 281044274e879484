/- press's reader: marks, walked. -/
import Derived.Test.YtebgcemglicjiaaPrsB
import Derived.Test.YtebgcemglicjiaaStep
namespace Go.Proofs.Ytebgcemglicjiaa
open Go.RowKit Go.PlainAid

theorem info_markP : (Try.prog.info? 73).map (fun i => (i.zero, i.size, i.bytes)) = some (some (.agg #[.int .i64 0, .int .i64 0, .int .u8 0]), 3, 24) := by kernel_rfl
theorem wf_i64M {n : Int} (h : -9223372036854775808 ≤ n ∧ n ≤ 9223372036854775807) : (Lit.int .i64 n).wf = true := by
  simpa [Lit.wf, IntKind.min, IntKind.max, IntKind.signed, IntKind.bits] using h
theorem wf_u8M {n : Int} (h : 0 ≤ n ∧ n ≤ 255) : (Lit.int .u8 n).wf = true := by
  simpa [Lit.wf, IntKind.min, IntKind.max, IntKind.signed, IntKind.bits] using h
structure MkJ (la lb : List Int) (s : ByteArray) (m k a : Nat) (L : List Mark) : Prop where
  eq : mkR la lb s m 0 [] = mkR la lb s (m - k) a L
  le : a ≤ 8 * s.size
  len : L.length = k
  ok : ∀ z ∈ L, Mark.ok z
theorem MkJ.start (la lb : List Int) (s : ByteArray) (m : Nat) : MkJ la lb s m 0 0 [] := ⟨rfl, Nat.zero_le _, rfl, fun z hz => by simp at hz⟩
theorem mk_fuel {m k : Nat} (h : k < m) : m - k = (m - (k + 1)) + 1 := by omega
theorem MkJ.bad {la lb : List Int} {s : ByteArray} {m k a : Nat} {L : List Mark} {z : Int} (h : MkJ la lb s m k a L) (hk : k < m) (h1 : one la s a = (0, 0, z)) (hz : z ≠ 0) : mkR la lb s m 0 [] = none := by
  rw [h.eq, mk_fuel hk, mkR_bad h1 hz]
theorem MkJ.bad2 {la lb : List Int} {s : ByteArray} {m k a x a1 : Nat} {L : List Mark} {z : Int} (h : MkJ la lb s m k a L) (hk : k < m) (h1 : one la s a = ((x : Int), (a1 : Int), 0)) (hx : ¬ x < 256) (h2 : one lb s a1 = (0, 0, z)) (hz : z ≠ 0) : mkR la lb s m 0 [] = none := by
  rw [h.eq, mk_fuel hk, mkR_bad2 h1 hx h2 hz]
theorem MkJ.far {la lb : List Int} {s : ByteArray} {m k a x a1 y a2 : Nat} {L : List Mark} (h : MkJ la lb s m k a L) (hk : k < m) (h1 : one la s a = ((x : Int), (a1 : Int), 0)) (hx : ¬ x < 256) (h2 : one lb s a1 = ((y : Int), (a2 : Int), 0)) (hf : 8 * s.size < a2 + y) : mkR la lb s m 0 [] = none := by
  rw [h.eq, mk_fuel hk, mkR_far h1 hx h2 hf]
theorem MkJ.byte {la lb : List Int} {s : ByteArray} {m k a x a1 : Nat} {L : List Mark} (h : MkJ la lb s m k a L) (hk : k < m) (h1 : one la s a = ((x : Int), (a1 : Int), 0)) (hx : x < 256) (ha : a1 ≤ 8 * s.size) : MkJ la lb s m (k + 1) a1 (L ++ [⟨0, 0, x⟩]) :=
  ⟨by rw [h.eq, mk_fuel hk, mkR_byte h1 hx], ha, by rw [List.length_append, h.len]; rfl, fun z hz => by
    rcases List.mem_append.1 hz with h2 | h2
    · exact h.ok z h2
    · simp at h2; subst h2; exact ⟨wf_i64M (by simp only; omega), wf_i64M (by simp only; omega), wf_u8M (by simp only; omega)⟩⟩
theorem MkJ.copy {la lb : List Int} {s : ByteArray} {m k a x a1 y a2 : Nat} {L : List Mark} (h : MkJ la lb s m k a L) (hk : k < m) (h1 : one la s a = ((x : Int), (a1 : Int), 0)) (hx : ¬ x < 256) (hx2 : x < 320) (h2 : one lb s a1 = ((y : Int), (a2 : Int), 0)) (hf : ¬ 8 * s.size < a2 + y) (hv : 0 ≤ tn s a2 y ∧ (2 : Int) ^ y + tn s a2 y ≤ 1000) (hp : (0 : Int) ≤ 2 ^ y) : MkJ la lb s m (k + 1) (a2 + y) (L ++ [⟨(x : Int) - 253, 2 ^ y + tn s a2 y, 0⟩]) :=
  ⟨by rw [h.eq, mk_fuel hk, mkR_copy h1 hx h2 hf], by omega, by rw [List.length_append, h.len]; rfl, fun z hz => by
    rcases List.mem_append.1 hz with h2 | h2
    · exact h.ok z h2
    · simp at h2; subst h2; exact ⟨wf_i64M (by simp only; omega), wf_i64M (by simp only; omega), wf_u8M (by simp only; omega)⟩⟩
theorem book_ne {w1 : World} {B : Nat} {x : Obj} (h : w1.heap[B]? = some x) : some w1.heap.size ≠ some B := fun e => by have := row_lt h; injection e with e; omega
theorem drewn_below {B q : Nat} {a w w' : World} (h : w' = w.drewN q) (hb : Below B a w) : Below B a w' := h ▸ below_drewN hb q
theorem drewn_own {base size n q : Nat} {v : Value} {xs : List Value} {w w' : World} (h : w' = w.drewN q) (ho : Owns w base size v n xs) : Owns w' base size v n xs := h ▸ ho.drewN q
theorem below_rd {w4 w7 w8 w9 : World} {N ba : Nat} (hb : Below N w4 w7) (hN : N ≤ w7.heap.size) (hb8 : Below w7.heap.size w7 w8) (hba : w7.heap.size ≤ ba) (g9 : w8.grownBy w9 (some ba)) : Below N w4 w9 := by
  refine (hb.trans (hb8.mono hN)).trans ⟨g9.os, g9.tape, g9.output, g9.size, fun k hk => g9.block k (Nat.lt_of_lt_of_le hk (Nat.le_trans hN hb8.size)) (fun e => by injection e with e; omega)⟩
theorem own_rd {w7 w8 w9 : World} {base size n ba : Nat} {v : Value} {xs : List Value} (ho : Owns w7 base size v n xs) (hb8 : Below w7.heap.size w7 w8) (hba : w7.heap.size ≤ ba) (g9 : w8.grownBy w9 (some ba)) : Owns w9 base size v n xs :=
  (ho.fresh_below hb8).kept (fun g hg => g9.block g (Nat.lt_of_lt_of_le (ho.lt g hg).2 hb8.size) (fun e => by injection e with e; have := (ho.lt g hg).2; omega)) g9.size
theorem size_allocM {w4 w9 : World} {N : Nat} {o : Obj} (hb : Below N w4 w9) (hN : N ≤ w4.heap.size) : N ≤ (w9.alloc o).heap.size := by have := hb.size; simp; omega
/-- One mark's row. -/
theorem mark_app {L : List Mark} {m : Mark} : L.flatMap Mark.cells ++ (#[.int .i64 m.Len, .int .i64 m.Dist, .int .u8 m.Byte] : Array Value).toList = (L ++ [m]).flatMap Mark.cells := by
  rw [List.flatMap_append]; simp [Mark.cells]

set_option maxRecDepth 20000 in
set_option maxHeartbeats 2000000 in
theorem rmarks_go (s s2 s3 : ByteArray) (B m : Nat) (W : World) (row : W.heap[B]? = some (.cells #[.string s, .bool false] 57 (0, 0))) (hs : s.size ≤ 1048575) (h : lnOk s 320) (e2 : s2 = cutB s (rrAt s).toNat) (hs2 : s2.size ≤ 1048575) (h2 : lnOk s2 9) (e3 : s3 = cutB s2 (rrAt s2).toNat) (hs3 : s3.size ≤ 1048575) (hm : m ≤ 512) :
    Calls Try.prog 19 #[.pointer (some ⟨B, 0, none⟩), .int .i64 m] W (MkPost s m B W) := by
  have HL := Lib.hid (rlens_ok2 s B 320 W row hs h (by omega))
  have HL2 : Hid (∀ V : World, V.heap[B]? = some (.cells #[.string s2, .bool false] 57 (0, 0)) → Calls Try.prog 54 #[.pointer (some ⟨B, 0, none⟩), .int .i64 9] V (LensPost2 s2 B V)) := fun V r => rlens_ok2 s2 B 9 V r hs2 h2 (by omega)
  have HNO := Lib.hid (fun (h3 : mkR (rrX s) (rrX s2) s3 m 0 [] = none) (s' : ByteArray) (w' : World) h1 h4 => mkPost_bad (s' := s') (B := B) (W := W) (w' := w') (marksR_3 (m := m) h e2 h2 e3 h3) h1 h4)
  have HEND : Hid (∀ (L : List Mark) (a : Nat) (A : Option Addr) (c : Nat) (b : Bool) (w' : World), mkR (rrX s) (rrX s2) s3 m 0 [] = some (L, a) → L.length = m → (b = true ∧ ¬ finOk s3 a ∨ b = false ∧ finOk s3 a) → w'.heap[B]? = some (.cells #[.string s3, .bool b] 57 (0, 0)) → RowsIn w' w'.heap.size A L.length c Mark.cells 3 L → W.grownBy w' (some B) → (∀ z ∈ L, Mark.ok z) → MkPost s m B W (.returned (.slice A L.length c)) w') := fun L a A c b w' q1 q2 q3 q4 q5 q6 q7 => ⟨A, L.length, c, s3, b, L, rfl, q4, q5, q6, q7, by omega, q3.imp (fun q => ⟨q.1, marksR_4 h e2 h2 e3 q1 q.2⟩) (fun q => ⟨q.1, marksR_5 h e2 h2 e3 q1 q.2⟩)⟩
  have hlt := row_lt row
  unfold LensPost2 at HL HL2
  rw [← e2] at HL
  rw [← e3] at HL2
  have HC1 := Lib.hid h.2.2
  have HC2 := Lib.hid h2.2.2
  have HX1 := Lib.hid h.2.1
  have HX2 := Lib.hid h2.2.1
  generalize MkPost s m B W = PP at *
  generalize rrX s = X at *
  generalize rrX s2 = X2 at *
  clear row h h2 e2 e3
  go_enter Try.func19, Try.ntmps19
  go_wp2_with (first
    | (refine wpList_store_book rfl _ _ rfl rfl w3 CS3 rfl rfl hb3.out.size hb3.out.one ?_; intro w4 rd hb4 hlt4; have rb4 := Lib.hid (row_below rb3.out (row_lt rb3.out) hb4); have g4 := Lib.hid (grown_box g3.out hb4); have k4 : w4.cell? ⟨B, 1, none⟩ = some (.bool false) := row_cell rb4.out 1; have BB4 := Lib.hid (hb3.out.below hb4); have BA4 := Lib.hid (ba3.out.below hb4); have RA4 := Lib.hid (row_below ra3.out (row_lt ra3.out) hb4); have RB4 := Lib.hid rd; clear rd hb4)
    | (go_at_call 54; refine (HL2.out w2 rb2.out).mono ?_; rintro e w3 ⟨CS3, rfl, hb3, g3, rb3⟩; have ba3 := Lib.hid (hb2.out.past rb2.out g3); have ra3 := Lib.hid ((g3.block _ hlt2.out (fun e => hne2.out e)).trans ra.out); replace hb3 := Lib.hid hb3; replace g3 := Lib.hid (grown_trans_row g2.out g3); replace rb3 := Lib.hid rb3)
    | (refine wpList_store_book rfl _ _ rfl rfl w1 CS1 rfl rfl hb1.out.size hb1.out.one ?_; intro w2 ra hb2 hlt2; replace ra := Lib.hid ra; replace hlt2 := Lib.hid hlt2; have hne2 := Lib.hid (book_ne rb1.out); have rb2 := Lib.hid (row_below rb1.out (row_lt rb1.out) hb2); have g2 := Lib.hid (grown_box g1.out hb2); have k2 : w2.cell? ⟨B, 1, none⟩ = some (.bool false) := row_cell rb2.out 1; replace hb2 := Lib.hid (hb1.out.below hb2))
    | (go_at_call 54; refine HL.out.mono ?_; rintro e w1 ⟨CS1, rfl, hb1, g1, rb1⟩; replace g1 := Lib.hid g1; replace rb1 := Lib.hid rb1; replace hb1 := Lib.hid hb1))
  have HO1 : Hid (∀ (V : World) (a : Nat), Below w4.heap.size w4 V → a ≤ 8 * s3.size → Calls Try.prog 55 #[.pointer (some ⟨w1.heap.size, 0, none⟩), .string s3, .int .i64 a] V fun e w' => ∃ q : Nat, e = .returned (.tuple #[.int .i64 (one X s3 a).1, .int .i64 (one X s3 a).2.1, .int .i64 (one X s3 a).2.2]) ∧ w' = V.drewN q) := fun V a hb ha => bk_one s3 a (BA4.out.below hb) (row_below RA4.out (row_lt RA4.out) hb) HC1.out (by rw [HX1.out]; omega) ha hs3
  have HO2 : Hid (∀ (V : World) (a : Nat), Below w4.heap.size w4 V → a ≤ 8 * s3.size → Calls Try.prog 55 #[.pointer (some ⟨w3.heap.size, 0, none⟩), .string s3, .int .i64 a] V fun e w' => ∃ q : Nat, e = .returned (.tuple #[.int .i64 (one X2 s3 a).1, .int .i64 (one X2 s3 a).2.1, .int .i64 (one X2 s3 a).2.2]) ∧ w' = V.drewN q) := fun V a hb ha => bk_one s3 a (BB4.out.below hb) (row_below RB4.out (row_lt RB4.out) hb) HC2.out (by rw [HX2.out]; omega) ha hs3
  have HRB : Hid (∀ V : World, Below w4.heap.size w4 V → V.heap[B]? = some (.cells #[.string s3, .bool false] 57 (0, 0))) := fun V hb => row_below rb4.out (row_lt rb4.out) hb
  have HBLT := Lib.hid (row_lt rb4.out)
  have HGR : Hid (∀ V : World, Below w4.heap.size w4 V → W.grownBy V (some B)) := fun V hb => grown_box g4.out hb
  have HBAD := Lib.hid (fun (h3 : mkR X X2 s3 m 0 [] = none) (V : World) (hb : Below w4.heap.size w4 V) => HNO.out h3 s3 (V.setCell ⟨B, 1, none⟩ (.bool true)) (row_store (HRB.out V hb)) (grown_trans_row (HGR.out V hb) grown_set))
  clear HL HL2 HNO k2 k4 hne2 hb2 ra3 hb3 ba3 rb3 g3 hlt2 rb2 g2 ra rb1 g1 hb1 hlt4
  go_loopw [7, 8, 27] (fun v7 v8 v27 wr => ∃ (k a : Nat) (A : Option Addr) (c : Nat) (L : List Mark), k ≤ m ∧ v7 = .int .i64 a ∧ v8 = .slice A L.length c ∧ v27 = .int .i64 k ∧ Hid (MkJ X X2 s3 m k a L) ∧ Hid (Owns wr w4.heap.size 3 (.slice A L.length c) L.length (L.flatMap Mark.cells)) ∧ Hid (Below w4.heap.size w4 wr)) (fun _ _ v27 _ => m - (intOf v27).toNat)
  case atStart => exact ⟨0, 0, none, 0, [], Nat.zero_le _, rfl, rfl, rfl, MkJ.start _ _ _ _, Owns.nil _ _ _, Below.refl _ _⟩
  case round =>
    obtain ⟨k, a, A, c, L, hk, rfl, rfl, rfl, HJ, HOW, HB⟩ := hrel
    obtain ⟨w5, rfl⟩ : ∃ z : World, z = wr := ⟨_, rfl⟩
    have hle := HJ.out.le
    by_cases hlt2 : k < m
    · have i1 : (k : Int) < (m : Int) := by omega
      have c0 : w5.cell? ⟨B, 0, none⟩ = some (.string s3) := row_cell (HRB.out _ HB.out) 0
      have HA := Lib.hid (HO1.out w5 a HB.out hle)
      rcases one_ok X s3 a hle with ⟨x, a1, he, hx, ha0, ha1⟩ | he | he
      · have hlen := HJ.out.len
        have G2 : Hid (∀ u ∈ (#[.int .i64 0, .int .i64 0, .int .u8 (x : Int)] : Array Value).toList, u.oneCell' = true) := by simp [Hid, Value.oneCell']
        have G3 : Hid (L.length + 1 ≤ maxLen ∧ (L.length + 1) * 24 ≤ 140737488355328) := by unfold maxLen Hid; omega
        have G4 : Hid (0 < 3) := by simp [Hid]
        rw [he] at HA
        by_cases hx256 : x < 256
        · have HJ2 := Lib.hid (HJ.out.byte hlt2 he hx256 ha1)
          have i2 : (x : Int) < 256 := by omega
          have p1 : IntKind.u8.wrap (x : Int) = (x : Int) := by rw [IntKind.wrap_u8]; omega
          have HMA := Lib.hid (mark_app (L := L) (m := ⟨0, 0, x⟩))
          clear he hlen
          go_wp2_with (first
            | (go_at_call 55; refine HA.out.mono ?_; rintro e w6 ⟨q, rfl, hw6⟩; have HB6 := Lib.hid (drewn_below hw6 HB.out); have HO6 := Lib.hid (drewn_own hw6 HOW.out); clear hw6)
            | (at_builtin; refine wpList_add1 (size := 3) (bytes := 24) (base := w4.heap.size) (news := #[.int .i64 0, .int .i64 0, .int .u8 (x : Int)]) rfl rfl Try.underlying39 info_markP rfl G4.out HO6.out rfl HB6.out.size rfl rfl rfl G2.out G3.out.1 G3.out.2 ?_; intro A3 c3 w7 hown7 hl7 hn7; have HO7 := Lib.hid hown7; have HB7 := Lib.hid (hl7.below (Nat.le_refl _) HB6.out); clear hown7 hl7 hn7))
          go_roundw
          case rel => exact ⟨k + 1, a1, A3, c3, _, by omega, rfl, by rw [List.length_append]; rfl, by go_num, HJ2.out, by rw [← HMA.out, List.length_append]; exact HO7.out, HB7.out⟩
          case measure => (simp [intOf]; try omega)
        · have i2 : ¬ (x : Int) < 256 := by omega
          have HA2 := Lib.hid (fun V hb => HO2.out V a1 hb ha1)
          rcases one_ok X2 s3 a1 ha1 with ⟨y, a2, he2, hy, hb0, hb1⟩ | he2 | he2
          · rw [he2] at HA2
            have hy9 : y < 9 := by have := HX2.out; omega
            have hx320 : x < 320 := by have := HX1.out; omega
            by_cases hfar : 8 * s3.size < a2 + y
            · have HBD := Lib.hid (fun V hb => HBAD.out (HJ.out.far hlt2 he hx256 he2 hfar) V hb)
              have d1 := decide_eq_true (show 8 * (s3.size : Int) < (a2 : Int) + (y : Int) by omega)
              clear he he2 hlen hfar
              go_wp2_with (first
                | (go_at_call 55; refine (HA2.out w6 HB6.out).mono ?_; rintro e w7 ⟨q2, rfl, hw7⟩; have HB7 := Lib.hid (drewn_below hw7 HB6.out); have HO7 := Lib.hid (drewn_own hw7 HO6.out); have r7 := HRB.out _ HB7.out; have c7 : w7.cell? ⟨B, 0, none⟩ = some (.string s3) := row_cell r7 0; have k7 : w7.cell? ⟨B, 1, none⟩ = some (.bool false) := row_cell r7 1; have f7 := row_cold r7 1; clear hw7 r7)
                | (go_at_call 55; refine HA.out.mono ?_; rintro e w6 ⟨q, rfl, hw6⟩; have HB6 := Lib.hid (drewn_below hw6 HB.out); have HO6 := Lib.hid (drewn_own hw6 HOW.out); have c6 : w6.cell? ⟨B, 0, none⟩ = some (.string s3) := row_cell (HRB.out _ HB6.out) 0; clear hw6))
              exact HBD.out w7 HB7.out
            · have HJ2 := Lib.hid (fun hv hp => HJ.out.copy hlt2 he hx256 hx320 he2 hfar hv hp)
              have hT := tn_bd s3 a2 y
              have hpy : (2 : Int) ^ y ≤ 256 := by
                have h1 : (2 : Nat) ^ y ≤ 2 ^ 8 := Nat.pow_le_pow_right (by omega) (by omega)
                have h3 : ((2 ^ y : Nat) : Int) ≤ ((2 ^ 8 : Nat) : Int) := by exact_mod_cast h1
                simpa using h3
              have hpy0 : (0 : Int) < 2 ^ y := Int.pow_pos (by decide)
              have HJ3 := Lib.hid (HJ2.out (by omega) (by omega))
              have HFROM : Hid (∀ V, Calls Try.prog 56 #[.string s3, .int .i64 a2] V fun e w' => ∃ b : Nat × Nat, e = .returned (.func (.func 75) #[] #[.pointer (some ⟨b.1, 0, none⟩), .pointer (some ⟨b.2, 0, none⟩)]) ∧ (Rd w' V.heap.size b.1 b.2 s3 a2 ∧ Below V.heap.size V w')) := fun V => (from_any s3 a2 V).mono (by rintro e w' ⟨ba, bs, h1, h2, h3⟩; exact ⟨(ba, bs), h1, h2, h3⟩)
              have HRD : Hid (∀ (V : World) (base ba bs : Nat), Rd V base ba bs s3 a2 → Calls Try.prog 75 #[.int .i64 y, .pointer (some ⟨ba, 0, none⟩), .pointer (some ⟨bs, 0, none⟩)] V fun e w' => e = .returned (.int .u64 (tn s3 a2 y)) ∧ V.grownBy w' (some ba)) := fun V base ba bs hr => (rd_any s3 a2 y ba bs base V hr (by omega) (by omega) (by omega)).mono (by rintro e w' ⟨h1, _, h3⟩; exact ⟨h1, h3⟩)
              have d1 := decide_eq_false (show ¬ 8 * (s3.size : Int) < (a2 : Int) + (y : Int) by omega)
              have HMA := Lib.hid (mark_app (L := L) (m := ⟨(x : Int) - 253, 2 ^ y + tn s3 a2 y, 0⟩))
              have G2 : Hid (∀ u ∈ (#[.int .i64 ((x : Int) - 253), .int .i64 (2 ^ y + tn s3 a2 y), .int .u8 0] : Array Value).toList, u.oneCell' = true) := by simp [Hid, Value.oneCell']
              have e1 : IntKind.i64.wrap ((x : Int) - 256) = (x : Int) - 256 := by rw [IntKind.wrap_i64]; omega
              have e2 : IntKind.i64.wrap ((x : Int) - 256 + 3) = (x : Int) - 253 := by rw [IntKind.wrap_i64]; omega
              have e3 : IntKind.i64.wrap (2 ^ y) = 2 ^ y := by rw [IntKind.wrap_i64]; omega
              have e4 : IntKind.i64.wrap (tn s3 a2 y) = tn s3 a2 y := by rw [IntKind.wrap_i64]; omega
              have e5 : IntKind.i64.wrap (2 ^ y + tn s3 a2 y) = 2 ^ y + tn s3 a2 y := by rw [IntKind.wrap_i64]; omega
              have y0 : (0 : Int) ≤ (y : Int) := by omega
              clear he he2 hlen hfar HJ2 hpy hpy0
              obtain ⟨hT0, _⟩ := hT
              generalize tn s3 a2 y = T at *
              go_wp2_with (first
                | (go_at_call 55; refine (HA2.out w6 HB6.out).mono ?_; rintro e w7 ⟨q2, rfl, hw7⟩; have HB7 := Lib.hid (drewn_below hw7 HB6.out); have HO7 := Lib.hid (drewn_own hw7 HO6.out); have r7 := HRB.out _ HB7.out; have c7 : w7.cell? ⟨B, 0, none⟩ = some (.string s3) := row_cell r7 0; have k7 : w7.cell? ⟨B, 1, none⟩ = some (.bool false) := row_cell r7 1; have f7 := row_cold r7 1; clear hw7 r7)
                | (go_at_call 55; refine HA.out.mono ?_; rintro e w6 ⟨q, rfl, hw6⟩; have HB6 := Lib.hid (drewn_below hw6 HB.out); have HO6 := Lib.hid (drewn_own hw6 HOW.out); have c6 : w6.cell? ⟨B, 0, none⟩ = some (.string s3) := row_cell (HRB.out _ HB6.out) 0; clear hw6))
              go_region_law (first
                | (refine step_app1 (P := Try.prog) (e := 73) (z := .agg #[.int .i64 0, .int .i64 0, .int .u8 0]) (size := 3) (bytes := 24) (base := w4.heap.size) rfl (.tmp 80) (.tmp 97) 39 rfl Try.underlying39 info_markP rfl G4.out A L.length c (L.flatMap Mark.cells) (by simp [go_sem]) (HO9.out.alloc (.cells #[.int .i64 ((x : Int) - 253), .int .i64 (2 ^ y + T), .int .u8 0] 73)) (size_allocM HB9.out (Nat.le_refl _)) w9.heap.size 1 #[.int .i64 ((x : Int) - 253), .int .i64 (2 ^ y + T), .int .u8 0] 73 (by simp [go_sem]) (heap_alloc_new w9 _) rfl G2.out G3.out.1 G3.out.2 ?_; intro A3 c3 w10 hown10 hl10 hn10; have HO10 := Lib.hid hown10; have HB10 := Lib.hid (hl10.below (Nat.le_refl _) (HB9.out.alloc HB9.out.size (.cells #[.int .i64 ((x : Int) - 253), .int .i64 (2 ^ y + T), .int .u8 0] 73))); clear hown10 hl10 hn10)
                | (refine step_enter rfl 75 #[.int .i64 y, .pointer (some ⟨ba, 0, none⟩), .pointer (some ⟨bs, 0, none⟩)] (.int .u64 T) (by simp [go_sem]) (HRD.out w8 _ ba bs hrd.out) ?_; intro w9 g9; have HO9 := Lib.hid (own_rd HO7.out.drew hb8.out hrd.out.hb g9); have HB9 := Lib.hid (below_rd HB7.out.drew HB7.out.size hb8.out hrd.out.hb g9); clear g9)
                | (refine step_enterc rfl 56 rfl #[.string s3, .int .i64 a2] (fun b : Nat × Nat => .func (.func 75) #[] #[.pointer (some ⟨b.1, 0, none⟩), .pointer (some ⟨b.2, 0, none⟩)]) (by simp [go_sem]) (HFROM.out w7.drew) ?_; rintro ⟨ba, bs⟩ w8 ⟨hrd, hb8⟩; replace hrd := Lib.hid hrd; replace hb8 := Lib.hid hb8))
              all_goals
                go_wp2_with fail
                go_roundw
                case rel => exact ⟨k + 1, a2 + y, A3, c3, _, by omega, by go_num, by rw [List.length_append]; rfl, by go_num, HJ3.out, by rw [← HMA.out, List.length_append]; exact HO10.out, HB10.out⟩
                case measure => (simp [intOf]; try omega)
          · have HBD := Lib.hid (fun V hb => HBAD.out (HJ.out.bad2 hlt2 he hx256 he2 (by decide)) V hb)
            rw [he2] at HA2
            clear he he2 hlen
            go_wp2_with (first
              | (go_at_call 55; refine (HA2.out w6 HB6.out).mono ?_; rintro e w7 ⟨q2, rfl, hw7⟩; have HB7 := Lib.hid (drewn_below hw7 HB6.out); have HO7 := Lib.hid (drewn_own hw7 HO6.out); have r7 := HRB.out _ HB7.out; have c7 : w7.cell? ⟨B, 0, none⟩ = some (.string s3) := row_cell r7 0; have k7 : w7.cell? ⟨B, 1, none⟩ = some (.bool false) := row_cell r7 1; have f7 := row_cold r7 1; clear hw7 r7)
              | (go_at_call 55; refine HA.out.mono ?_; rintro e w6 ⟨q, rfl, hw6⟩; have HB6 := Lib.hid (drewn_below hw6 HB.out); have HO6 := Lib.hid (drewn_own hw6 HOW.out); have c6 : w6.cell? ⟨B, 0, none⟩ = some (.string s3) := row_cell (HRB.out _ HB6.out) 0; clear hw6))
            exact HBD.out w7 HB7.out
          · have HBD := Lib.hid (fun V hb => HBAD.out (HJ.out.bad2 hlt2 he hx256 he2 (by decide)) V hb)
            rw [he2] at HA2
            clear he he2 hlen
            go_wp2_with (first
              | (go_at_call 55; refine (HA2.out w6 HB6.out).mono ?_; rintro e w7 ⟨q2, rfl, hw7⟩; have HB7 := Lib.hid (drewn_below hw7 HB6.out); have HO7 := Lib.hid (drewn_own hw7 HO6.out); have r7 := HRB.out _ HB7.out; have c7 : w7.cell? ⟨B, 0, none⟩ = some (.string s3) := row_cell r7 0; have k7 : w7.cell? ⟨B, 1, none⟩ = some (.bool false) := row_cell r7 1; have f7 := row_cold r7 1; clear hw7 r7)
              | (go_at_call 55; refine HA.out.mono ?_; rintro e w6 ⟨q, rfl, hw6⟩; have HB6 := Lib.hid (drewn_below hw6 HB.out); have HO6 := Lib.hid (drewn_own hw6 HOW.out); have c6 : w6.cell? ⟨B, 0, none⟩ = some (.string s3) := row_cell (HRB.out _ HB6.out) 0; clear hw6))
            exact HBD.out w7 HB7.out
      · have HBD := Lib.hid (fun q => HBAD.out (HJ.out.bad hlt2 he (by decide)) (w5.drewN q) (below_drewN HB.out q))
        have c1 : w5.cell? ⟨B, 1, none⟩ = some (.bool false) := row_cell (HRB.out _ HB.out) 1
        have f1 := row_cold (HRB.out _ HB.out) 1
        rw [he] at HA
        clear he
        go_wp2_with (go_at_call 55; refine HA.out.mono ?_; rintro e w6 ⟨q, rfl, rfl⟩)
        exact HBD.out q
      · have HBD := Lib.hid (fun q => HBAD.out (HJ.out.bad hlt2 he (by decide)) (w5.drewN q) (below_drewN HB.out q))
        have c1 : w5.cell? ⟨B, 1, none⟩ = some (.bool false) := row_cell (HRB.out _ HB.out) 1
        have f1 := row_cold (HRB.out _ HB.out) 1
        rw [he] at HA
        clear he
        go_wp2_with (go_at_call 55; refine HA.out.mono ?_; rintro e w6 ⟨q, rfl, rfl⟩)
        exact HBD.out q
    · obtain rfl : k = m := by omega
      have i1 : ¬ (k : Int) < (k : Int) := by omega
      have hmk : mkR X X2 s3 k 0 [] = some (L, a) := by rw [HJ.out.eq, Nat.sub_self]; rfl
      have hRB := HRB.out _ HB.out
      have c0 : w5.cell? ⟨B, 0, none⟩ = some (.string s3) := row_cell hRB 0
      have c1 : w5.cell? ⟨B, 1, none⟩ = some (.bool false) := row_cell hRB 1
      have f1 := row_cold hRB 1
      have hE := fun (b : Bool) (w' : World) q3 q4 q5 q6 => HEND.out L a A c b w' hmk HJ.out.len q3 q4 q5 q6 HJ.out.ok
      obtain ⟨j, hj⟩ : ∃ j, j = 8 * s3.size - a := ⟨_, rfl⟩
      have hjI : 8 * (s3.size : Int) - (a : Int) = (j : Int) := by omega
      have HROWS : Hid (∀ V : World, Owns V w4.heap.size 3 (.slice A L.length c) L.length (L.flatMap Mark.cells) → RowsIn V V.heap.size A L.length c Mark.cells 3 L) := fun V ho => ho.rows (enc := Mark.cells) (k := 3) (fun _ => rfl) (by decide)
      have HYES : Hid (finOk s3 a → ∀ V : World, Below w4.heap.size w4 V → Owns V w4.heap.size 3 (.slice A L.length c) L.length (L.flatMap Mark.cells) → PP (.returned (.slice A L.length c)) V) := fun hf V hb ho => hE false V (.inr ⟨rfl, hf⟩) (HRB.out V hb) (HROWS.out V ho) (HGR.out V hb)
      have HNOT : Hid (¬ finOk s3 a → ∀ V : World, Below w4.heap.size w4 V → Owns V w4.heap.size 3 (.slice A L.length c) L.length (L.flatMap Mark.cells) → PP (.returned (.slice A L.length c)) (V.setCell ⟨B, 1, none⟩ (.bool true))) := fun hf V hb ho => hE true (V.setCell ⟨B, 1, none⟩ (.bool true)) (.inl ⟨rfl, hf⟩) (row_store (HRB.out V hb)) (HROWS.out _ (ho.setOther (fun e => by have h1 := (ho.lt _ e).1; have h2 := HBLT.out; simp at h1; omega) _)) (grown_trans_row (HGR.out V hb) grown_set)
      have hfin : finOk s3 a ↔ j < 8 ∧ tn s3 a j = 0 := by unfold finOk; rw [← hj]
      have HJE := Lib.hid hj
      clear hE hmk hRB hj
      rcases (show 8 ≤ j ∨ j = 0 ∨ (0 < j ∧ j < 8) by omega) with h8 | h8 | ⟨h8, h9⟩
      · have HP := Lib.hid (HNOT.out (fun h => by have := (hfin.1 h).1; omega) w5 HB.out HOW.out)
        have d1 := decide_eq_true (show (8 : Int) ≤ (j : Int) by omega)
        clear hfin
        go_wp2
        exact HP.out
      · have HP := Lib.hid (HYES.out (hfin.2 ⟨by omega, by rw [h8]; rfl⟩) w5 HB.out HOW.out)
        have d1 := decide_eq_false (show ¬ (8 : Int) ≤ (j : Int) by omega)
        have d2 := decide_eq_false (show ¬ (0 : Int) < (j : Int) by omega)
        have d3 : ¬ 0 < j := by omega
        clear hfin h8
        go_wp2
        exact HP.out
      · have HFROM : Hid (∀ V, Calls Try.prog 56 #[.string s3, .int .i64 a] V fun e w' => ∃ ba bs : Nat, e = .returned (.func (.func 75) #[] #[.pointer (some ⟨ba, 0, none⟩), .pointer (some ⟨bs, 0, none⟩)]) ∧ Rd w' V.heap.size ba bs s3 a ∧ Below V.heap.size V w') := fun V => from_any s3 a V
        have HRD : Hid (∀ (V : World) (base ba bs : Nat), Rd V base ba bs s3 a → Calls Try.prog 75 #[.int .i64 j, .pointer (some ⟨ba, 0, none⟩), .pointer (some ⟨bs, 0, none⟩)] V fun e w' => e = .returned (.int .u64 (tn s3 a j)) ∧ V.grownBy w' (some ba)) := fun V base ba bs hr => (rd_any s3 a j ba bs base V hr (by omega) (by have := HJE.out; omega) (by omega)).mono (by rintro e w' ⟨h1, _, h3⟩; exact ⟨h1, h3⟩)
        have d1 := decide_eq_false (show ¬ (8 : Int) ≤ (j : Int) by omega)
        have d2 := decide_eq_true (show (0 : Int) < (j : Int) by omega)
        have HYES2 := Lib.hid (fun (h : tn s3 a j = 0) => HYES.out (hfin.2 ⟨h9, h⟩))
        have HNOT2 := Lib.hid (fun (h : tn s3 a j ≠ 0) => HNOT.out (fun k => h (hfin.1 k).2))
        clear hfin
        generalize tn s3 a j = T at *
        by_cases hT : T = 0
        · have HP := Lib.hid (HYES2.out hT)
          have d3 : (T != 0) = false := by rw [hT]; rfl
          clear hT
          go_wp2_with (first
            | (go_at_call 75; refine (HRD.out w6 _ ba bs hrd.out).mono ?_; rintro e w7 ⟨rfl, g7⟩; have HO7 := Lib.hid (own_rd HOW.out hb6.out hrd.out.hb g7); have HB7 := Lib.hid (below_rd HB.out HB.out.size hb6.out hrd.out.hb g7); clear g7)
            | (go_at_call 56; refine (HFROM.out w5).mono ?_; rintro e w6 ⟨ba, bs, rfl, hrd, hb6⟩; replace hrd := Lib.hid hrd; replace hb6 := Lib.hid hb6))
          exact HP.out w7 HB7.out HO7.out
        · have HP := Lib.hid (HNOT2.out hT)
          have d3 : (T != 0) = true := by simpa using hT
          clear hT
          go_wp2_with (first
            | (go_at_call 75; refine (HRD.out w6 _ ba bs hrd.out).mono ?_; rintro e w7 ⟨rfl, g7⟩; have HO7 := Lib.hid (own_rd HOW.out hb6.out hrd.out.hb g7); have HB7 := Lib.hid (below_rd HB.out HB.out.size hb6.out hrd.out.hb g7); have r7 := HRB.out _ HB7.out; have c7 : w7.cell? ⟨B, 1, none⟩ = some (.bool false) := row_cell r7 1; have f7 := row_cold r7 1; clear g7 r7)
            | (go_at_call 56; refine (HFROM.out w5).mono ?_; rintro e w6 ⟨ba, bs, rfl, hrd, hb6⟩; replace hrd := Lib.hid hrd; replace hb6 := Lib.hid hb6))
          exact HP.out w7 HB7.out HO7.out
end Go.Proofs.Ytebgcemglicjiaa
