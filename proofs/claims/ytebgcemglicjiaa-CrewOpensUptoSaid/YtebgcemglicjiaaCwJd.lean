/- What linenref.Open and slices.Equal reach is such as LIFT bears. Printed by gen_cvd.py. No condition of ours. -/
import Derived.Test.YtebgcemglicjiaaChecked
import Derived.Test.YtebgcemglicjiaaCwJc
/- The program's numbers for sync.WaitGroup's functions and types. No condition of ours. -/
namespace Go.Proofs.Ytebgcemglicjiaa
open Go.RowKit
abbrev link : Go.Conc.Lib.WgLink := { add := 13, done := 15, wait := 16, relMerge := 29, disable := 30, enable := 31, inBubble := 32, associate := 33, fatal := 34, uOr := 35, uAdd := 36, raceRead := 37, uLoad := 38, uStore := 39, disassociate := 40, semrelease := 41, acquire := 42, isAssociated := 43, uCas := 44, raceWrite := 45, semacquire := 46, orU64 := 61, addU64 := 62, loadU64 := 63, storeU64 := 64, casU64 := 65, tWgP := 77, tUP := 79, tAssoc := 81, tWg := 54, tAU := 51, tU64 := 35, tUint := 85, tU32 := 52, tPU32 := 86, tPAU := 118, tPU64 := 120, tNoCopy := 47, tANoCopy := 48, tAlign64 := 49 }
set_option maxRecDepth 100000 in
theorem wgLib : Go.Conc.Lib.WgLib Try.prog link :=
  ⟨Try.func13, Try.func15, Try.func16, Try.func29, Try.func30, Try.func31, Try.func32, Try.func33, Try.func34, Try.func35, Try.func36, Try.func37, Try.func38, Try.func39, Try.func40, Try.func41, Try.func42, Try.func43, Try.func44, Try.func45, Try.func46, Try.func61, Try.func62, Try.func63, Try.func64, Try.func65, Try.underlying77, Try.runUnderlying77, Try.sizeOf77, Try.isAgg77, Try.zeroValue77, Try.underlying79, Try.runUnderlying79, Try.sizeOf79, Try.isAgg79, Try.zeroValue79, Try.underlying81, Try.runUnderlying81, Try.sizeOf81, Try.isAgg81, Try.zeroValue81, Try.underlying54, Try.runUnderlying54, Try.sizeOf54, Try.isAgg54, Try.zeroValue54, Try.underlying51, Try.runUnderlying51, Try.sizeOf51, Try.isAgg51, Try.zeroValue51, Try.underlying35, Try.runUnderlying35, Try.sizeOf35, Try.isAgg35, Try.zeroValue35, Try.underlying85, Try.runUnderlying85, Try.sizeOf85, Try.isAgg85, Try.zeroValue85, Try.underlying52, Try.runUnderlying52, Try.sizeOf52, Try.isAgg52, Try.zeroValue52, Try.underlying86, Try.runUnderlying86, Try.sizeOf86, Try.isAgg86, Try.zeroValue86, Try.underlying118, Try.runUnderlying118, Try.sizeOf118, Try.isAgg118, Try.zeroValue118, Try.underlying120, Try.runUnderlying120, Try.sizeOf120, Try.isAgg120, Try.zeroValue120, Try.underlying0, Try.runUnderlying0, Try.sizeOf0, Try.isAgg0, Try.zeroValue0, Try.underlying3, Try.runUnderlying3, Try.sizeOf3, Try.isAgg3, Try.zeroValue3, Try.underlying4, Try.runUnderlying4, Try.sizeOf4, Try.isAgg4, Try.zeroValue4, Try.underlying9, Try.runUnderlying9, Try.sizeOf9, Try.isAgg9, Try.zeroValue9, Try.underlying20, Try.runUnderlying20, Try.sizeOf20, Try.isAgg20, Try.zeroValue20, Try.underlying21, Try.runUnderlying21, Try.sizeOf21, Try.isAgg21, Try.zeroValue21, rfl, rfl⟩
end Go.Proofs.Ytebgcemglicjiaa

/- What press.Open reaches is such as LIFT bears. Printed by gen_cwz.py. No condition of ours. -/
namespace Go.Proofs.Ytebgcemglicjiaa
open Go.RowKit
theorem ext_same {P : Program} {F : Nat → Bool} {p : Ren P.globals.size} {xs ys : Array Value} (h : AR F p xs ys) : SR P F (VR F) p (Extern.AbiNoEscape.same xs) (Extern.AbiNoEscape.same ys) := by
  obtain ⟨l⟩ := xs
  obtain ⟨l'⟩ := ys
  match l, l', h with
  | [x], [y], h => exact sr_pure (h.2 0 (by simp) (by simp))
  | [], _, _ => exact sr_stuck
  | _ :: _ :: _, _, _ => exact sr_stuck
  | [_], [], h => exact absurd h.1 (by simp)
  | [_], _ :: _ :: _, h => exact absurd h.1 (by simp)
theorem digits_flat : ∀ (n t : Nat) (acc : Array Value), acc.all flatV = true → (Extern.BytealgMakeNoZero.digits n t acc).all flatV = true
  | 0, _, _, h => h
  | n + 1, t, acc, h => digits_flat n (t / 256) _ (by simp [h, flatV])
theorem ext_noZero {P : Program} {F : Nat → Bool} {p : Ren P.globals.size} {ps rs : Array TypeId} {xs ys : Array Value} (h : AR F p xs ys) : SR P F (VR F) p (Extern.BytealgMakeNoZero.makeNoZero ps rs xs) (Extern.BytealgMakeNoZero.makeNoZero ps rs ys) := by
  by_cases hx : ∃ n, xs = #[.int .i64 n]
  · obtain ⟨n, rfl⟩ := hx
    have e : ys = #[.int .i64 n] := AR.flat_eq (by simp [flatV]) h
    subst e
    delta Extern.BytealgMakeNoZero.makeNoZero
    dsimp only [Extern.BytealgMakeNoZero.makeNoZero.match_3]
    cases rs[0]? with
    | none => exact sr_stuck
    | some t =>
      refine (sr_underlying _).bind fun q1 h1 u v huv => ?_
      obtain ⟨rfl, _⟩ := huv
      split
      · split
        · exact sr_rtb trivial
        · refine (sq_choose _).bind fun q2 h2 a b hab => ?_
          obtain rfl : a = b := hab
          refine (sr_askRoom _).bind fun q3 h3 _ _ _ => ?_
          refine (sq_choose _).bind fun q4 h4 a' b' hab' => ?_
          obtain rfl : a' = b' := hab'
          refine (sr_newRow _ (AR.flat (digits_flat _ _ _ (by simp)))).bind fun q5 h5 a1 b1 hab1 => ?_
          exact sr_pure (VR.slice' _ _ hab1)
      · exact sr_stuck
  · have e : Extern.BytealgMakeNoZero.makeNoZero ps rs xs = stuck "bytealg.MakeNoZero: an int expected" := by
      obtain ⟨l⟩ := xs
      match l with
      | [] => rfl
      | [v] =>
        cases v with
        | int k n => cases k <;> first | rfl | exact absurd ⟨n, rfl⟩ hx
        | _ => rfl
      | _ :: _ :: _ => rfl
    rw [e]
    exact sr_stuck
def pF (f : Nat) : Bool := [9, 17, 18, 19, 20, 47, 48, 49, 50, 51, 52, 53, 54, 55, 56, 57, 66, 67, 68, 69, 70, 71, 72, 73, 74, 75, 76, 77, 78].contains f
theorem pF_cases {f : Nat} (h : pF f = true) : f = 9 ∨ f = 17 ∨ f = 18 ∨ f = 19 ∨ f = 20 ∨ f = 47 ∨ f = 48 ∨ f = 49 ∨ f = 50 ∨ f = 51 ∨ f = 52 ∨ f = 53 ∨ f = 54 ∨ f = 55 ∨ f = 56 ∨ f = 57 ∨ f = 66 ∨ f = 67 ∨ f = 68 ∨ f = 69 ∨ f = 70 ∨ f = 71 ∨ f = 72 ∨ f = 73 ∨ f = 74 ∨ f = 75 ∨ f = 76 ∨ f = 77 ∨ f = 78 := by simpa [pF] using h
theorem pF_bodies : okBodies Try.prog pF := by
  intro f h
  rcases pF_cases h with rfl | rfl | rfl | rfl | rfl | rfl | rfl | rfl | rfl | rfl | rfl | rfl | rfl | rfl | rfl | rfl | rfl | rfl | rfl | rfl | rfl | rfl | rfl | rfl | rfl | rfl | rfl | rfl | rfl
  · exact ⟨_, Try.func9, fun c h => by (first | (cases h; kernel_rfl) | cases h)⟩
  · exact ⟨_, Try.func17, fun c h => by (first | (cases h; kernel_rfl) | cases h)⟩
  · exact ⟨_, Try.func18, fun c h => by (first | (cases h; kernel_rfl) | cases h)⟩
  · exact ⟨_, Try.func19, fun c h => by (first | (cases h; kernel_rfl) | cases h)⟩
  · exact ⟨_, Try.func20, fun c h => by (first | (cases h; kernel_rfl) | cases h)⟩
  · exact ⟨_, Try.func47, fun c h => by (first | (cases h; kernel_rfl) | cases h)⟩
  · exact ⟨_, Try.func48, fun c h => by (first | (cases h; kernel_rfl) | cases h)⟩
  · exact ⟨_, Try.func49, fun c h => by (first | (cases h; kernel_rfl) | cases h)⟩
  · exact ⟨_, Try.func50, fun c h => by (first | (cases h; kernel_rfl) | cases h)⟩
  · exact ⟨_, Try.func51, fun c h => by (first | (cases h; kernel_rfl) | cases h)⟩
  · exact ⟨_, Try.func52, fun c h => by (first | (cases h; kernel_rfl) | cases h)⟩
  · exact ⟨_, Try.func53, fun c h => by (first | (cases h; kernel_rfl) | cases h)⟩
  · exact ⟨_, Try.func54, fun c h => by (first | (cases h; kernel_rfl) | cases h)⟩
  · exact ⟨_, Try.func55, fun c h => by (first | (cases h; kernel_rfl) | cases h)⟩
  · exact ⟨_, Try.func56, fun c h => by (first | (cases h; kernel_rfl) | cases h)⟩
  · exact ⟨_, Try.func57, fun c h => by (first | (cases h; kernel_rfl) | cases h)⟩
  · exact ⟨_, Try.func66, fun c h => by (first | (cases h; kernel_rfl) | cases h)⟩
  · exact ⟨_, Try.func67, fun c h => by (first | (cases h; kernel_rfl) | cases h)⟩
  · exact ⟨_, Try.func68, fun c h => by (first | (cases h; kernel_rfl) | cases h)⟩
  · exact ⟨_, Try.func69, fun c h => by (first | (cases h; kernel_rfl) | cases h)⟩
  · exact ⟨_, Try.func70, fun c h => by (first | (cases h; kernel_rfl) | cases h)⟩
  · exact ⟨_, Try.func71, fun c h => by (first | (cases h; kernel_rfl) | cases h)⟩
  · exact ⟨_, Try.func72, fun c h => by (first | (cases h; kernel_rfl) | cases h)⟩
  · exact ⟨_, Try.func73, fun c h => by (first | (cases h; kernel_rfl) | cases h)⟩
  · exact ⟨_, Try.func74, fun c h => by (first | (cases h; kernel_rfl) | cases h)⟩
  · exact ⟨_, Try.func75, fun c h => by (first | (cases h; kernel_rfl) | cases h)⟩
  · exact ⟨_, Try.func76, fun c h => by (first | (cases h; kernel_rfl) | cases h)⟩
  · exact ⟨_, Try.func77, fun c h => by (first | (cases h; kernel_rfl) | cases h)⟩
  · exact ⟨_, Try.func78, fun c h => by (first | (cases h; kernel_rfl) | cases h)⟩
theorem pF_funcs : okFuncs Try.prog pF := by
  intro f h
  rcases pF_cases h with rfl | rfl | rfl | rfl | rfl | rfl | rfl | rfl | rfl | rfl | rfl | rfl | rfl | rfl | rfl | rfl | rfl | rfl | rfl | rfl | rfl | rfl | rfl | rfl | rfl | rfl | rfl | rfl | rfl
  · exact ⟨_, Try.func9, by kernel_rfl, fun h => by cases h⟩
  · exact ⟨_, Try.func17, by kernel_rfl, fun h => by cases h⟩
  · exact ⟨_, Try.func18, by kernel_rfl, fun h => by cases h⟩
  · exact ⟨_, Try.func19, by kernel_rfl, fun h => by cases h⟩
  · exact ⟨_, Try.func20, by kernel_rfl, fun h => by cases h⟩
  · exact ⟨_, Try.func47, by kernel_rfl, fun h => by cases h⟩
  · exact ⟨_, Try.func48, by kernel_rfl, fun h => by cases h⟩
  · exact ⟨_, Try.func49, by kernel_rfl, fun h => by cases h⟩
  · exact ⟨_, Try.func50, by kernel_rfl, fun h => by cases h⟩
  · exact ⟨_, Try.func51, by kernel_rfl, fun h => by cases h⟩
  · exact ⟨_, Try.func52, by kernel_rfl, fun h => by cases h⟩
  · exact ⟨_, Try.func53, by kernel_rfl, fun h => by cases h⟩
  · exact ⟨_, Try.func54, by kernel_rfl, fun h => by cases h⟩
  · exact ⟨_, Try.func55, by kernel_rfl, fun h => by cases h⟩
  · exact ⟨_, Try.func56, by kernel_rfl, fun h => by cases h⟩
  · exact ⟨_, Try.func57, by kernel_rfl, fun h => by cases h⟩
  · exact ⟨_, Try.func66, by kernel_rfl, fun h => by cases h⟩
  · exact ⟨_, Try.func67, by kernel_rfl, fun h => by cases h⟩
  · exact ⟨_, Try.func68, by kernel_rfl, fun h => by cases h⟩
  · exact ⟨_, Try.func69, by kernel_rfl, fun h => by cases h⟩
  · exact ⟨_, Try.func70, by kernel_rfl, fun h => by cases h⟩
  · exact ⟨_, Try.func71, by kernel_rfl, fun h => by cases h⟩
  · exact ⟨_, Try.func72, by kernel_rfl, fun h => by cases h⟩
  · exact ⟨_, Try.func73, by kernel_rfl, fun h => by cases h⟩
  · exact ⟨_, Try.func74, by kernel_rfl, fun h => by cases h⟩
  · exact ⟨_, Try.func75, by kernel_rfl, fun h => by cases h⟩
  · exact ⟨_, Try.func76, by kernel_rfl, fun _ => ⟨by kernel_rfl, fun p xs ys h => ext_same h⟩⟩
  · exact ⟨_, Try.func77, by kernel_rfl, fun _ => ⟨by kernel_rfl, fun p xs ys h => ext_noZero h⟩⟩
  · exact ⟨_, Try.func78, by kernel_rfl, fun h => by cases h⟩
end Go.Proofs.Ytebgcemglicjiaa

namespace Go.Proofs.Ytebgcemglicjiaa
open Go.RowKit
def qF (f : Nat) : Bool := [5, 6, 10, 11, 12, 21, 22, 23, 24, 25, 26, 27, 28, 58, 59, 60].contains f
theorem qF_cases {f : Nat} (h : qF f = true) : f = 5 ∨ f = 6 ∨ f = 10 ∨ f = 11 ∨ f = 12 ∨ f = 21 ∨ f = 22 ∨ f = 23 ∨ f = 24 ∨ f = 25 ∨ f = 26 ∨ f = 27 ∨ f = 28 ∨ f = 58 ∨ f = 59 ∨ f = 60 := by simpa [qF] using h
theorem qF_bodies : okBodies Try.prog qF := by
  intro f h
  rcases qF_cases h with rfl | rfl | rfl | rfl | rfl | rfl | rfl | rfl | rfl | rfl | rfl | rfl | rfl | rfl | rfl | rfl
  · exact ⟨_, Try.func5, fun c h => by (first | (cases h; kernel_rfl) | cases h)⟩
  · exact ⟨_, Try.func6, fun c h => by (first | (cases h; kernel_rfl) | cases h)⟩
  · exact ⟨_, Try.func10, fun c h => by (first | (cases h; kernel_rfl) | cases h)⟩
  · exact ⟨_, Try.func11, fun c h => by (first | (cases h; kernel_rfl) | cases h)⟩
  · exact ⟨_, Try.func12, fun c h => by (first | (cases h; kernel_rfl) | cases h)⟩
  · exact ⟨_, Try.func21, fun c h => by (first | (cases h; kernel_rfl) | cases h)⟩
  · exact ⟨_, Try.func22, fun c h => by (first | (cases h; kernel_rfl) | cases h)⟩
  · exact ⟨_, Try.func23, fun c h => by (first | (cases h; kernel_rfl) | cases h)⟩
  · exact ⟨_, Try.func24, fun c h => by (first | (cases h; kernel_rfl) | cases h)⟩
  · exact ⟨_, Try.func25, fun c h => by (first | (cases h; kernel_rfl) | cases h)⟩
  · exact ⟨_, Try.func26, fun c h => by (first | (cases h; kernel_rfl) | cases h)⟩
  · exact ⟨_, Try.func27, fun c h => by (first | (cases h; kernel_rfl) | cases h)⟩
  · exact ⟨_, Try.func28, fun c h => by (first | (cases h; kernel_rfl) | cases h)⟩
  · exact ⟨_, Try.func58, fun c h => by (first | (cases h; kernel_rfl) | cases h)⟩
  · exact ⟨_, Try.func59, fun c h => by (first | (cases h; kernel_rfl) | cases h)⟩
  · exact ⟨_, Try.func60, fun c h => by (first | (cases h; kernel_rfl) | cases h)⟩
theorem qF_funcs : okFuncs Try.prog qF := by
  intro f h
  rcases qF_cases h with rfl | rfl | rfl | rfl | rfl | rfl | rfl | rfl | rfl | rfl | rfl | rfl | rfl | rfl | rfl | rfl
  · exact ⟨_, Try.func5, by kernel_rfl, fun h => by cases h⟩
  · exact ⟨_, Try.func6, by kernel_rfl, fun h => by cases h⟩
  · exact ⟨_, Try.func10, by kernel_rfl, fun h => by cases h⟩
  · exact ⟨_, Try.func11, by kernel_rfl, fun h => by cases h⟩
  · exact ⟨_, Try.func12, by kernel_rfl, fun h => by cases h⟩
  · exact ⟨_, Try.func21, by kernel_rfl, fun h => by cases h⟩
  · exact ⟨_, Try.func22, by kernel_rfl, fun h => by cases h⟩
  · exact ⟨_, Try.func23, by kernel_rfl, fun h => by cases h⟩
  · exact ⟨_, Try.func24, by kernel_rfl, fun h => by cases h⟩
  · exact ⟨_, Try.func25, by kernel_rfl, fun h => by cases h⟩
  · exact ⟨_, Try.func26, by kernel_rfl, fun h => by cases h⟩
  · exact ⟨_, Try.func27, by kernel_rfl, fun h => by cases h⟩
  · exact ⟨_, Try.func28, by kernel_rfl, fun h => by cases h⟩
  · exact ⟨_, Try.func58, by kernel_rfl, fun h => by cases h⟩
  · exact ⟨_, Try.func59, by kernel_rfl, fun h => by cases h⟩
  · exact ⟨_, Try.func60, by kernel_rfl, fun h => by cases h⟩
end Go.Proofs.Ytebgcemglicjiaa
