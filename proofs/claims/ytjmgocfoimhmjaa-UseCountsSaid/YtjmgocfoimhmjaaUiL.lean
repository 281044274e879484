/- What the walks of use.Inode and linenref.AliveInode share: a blob's box behind a call. -/
import Derived.Test.YtjmgocfoimhmjaaUcJb
import Derived.Test.YtjmgocfoimhmjaaIreadW
import Derived.Test.YtjmgocfoimhmjaaStep
import Derived.Deep.DeepCutAuto
import Derived.Deep.RegionLaw
import Derived.BigQuiet
namespace Go.Proofs.Ytjmgocfoimhmjaa
open Go.RowKit

theorem results_ctt_row {P : Program} {fn : Func} {p u z : Tmp} {ty : TypeId} (h : fn.results = #[.cell p ty, .tmp u, .tmp z]) (tmps : Array Value) (w : World) (g : Nat) (t : TypeId) (cs : Array Value) (fr : Nat × Nat) (d : TypeDesc)
    (hp : tmps.getD p undef = .pointer (some ⟨g, 0, none⟩)) (hg : w.heap[g]? = some (.cells cs t fr))
    (hu : P.underlying ty = some d) (hd : (match d with | .struct _ | .array _ _ => true | _ => false) = true) (hi : (P.info? ty).map (·.size) = some cs.size) :
    (results fn tmps).run P w = .ok (.tuple #[.agg cs, tmps.getD u undef, tmps.getD z undef]) w := by
  have hp' : tmps[p]?.getD undef = .pointer (some ⟨g, 0, none⟩) := by simpa using hp
  simp [results, h, hp', asAddr, run_loadVar_row w g t ty cs fr d hg hu hd hi]
theorem calls_ub {f : FuncId} {args : Array Value} {W : World} {E : Int} {b : BlobD} (h : Calls Try.prog f args W (UbPost E b W)) :
    Calls Try.prog f args W fun e w' => ∃ _ : Unit, e = .returned (.tuple #[.agg #[.int .i64 b.Kind, .int .i64 b.Ino, .int .i64 b.Nth, .string b.Text], .int .i64 E]) ∧ Below W.heap.size W w' :=
  h.mono fun _ _ ⟨h1, h2⟩ => ⟨(), h1, h2⟩
/-- A blob's box behind a call that makes it. -/
def UiI (t : TypeId) (lo : Nat) (b : BlobD) (E : Int) (wa : World) (s9 s10 : Value) (wx : World) : Prop := ∃ M, s9 = .pointer (some ⟨M, 0, none⟩) ∧ s10 = .int .i64 E ∧ lo ≤ M ∧ Hid (wx.heap[M]? = some (.cells #[.int .i64 b.Kind, .int .i64 b.Ino, .int .i64 b.Nth, .string b.Text] t (0, 0))) ∧ Hid (Below wa.heap.size wa wx)
theorem ui_new {t : TypeId} {lo : Nat} {b : BlobD} {E : Int} {wa w2 : World} (hb : Below wa.drew.heap.size wa.drew w2) (hlo : wa.heap.size = lo) :
    UiI t lo b E wa (.pointer (some ⟨w2.heap.size, 0, none⟩)) (.int .i64 E) (w2.alloc (.cells #[.int .i64 b.Kind, .int .i64 b.Ino, .int .i64 b.Nth, .string b.Text] t)) :=
  have hb' : Below wa.heap.size wa w2 := (Below.refl _ _).drew.trans hb
  ⟨_, rfl, rfl, by have := hb'.size; omega, heap_alloc_new w2 _, hb'.alloc hb'.size _⟩
theorem ui_old {t : TypeId} {lo : Nat} {b : BlobD} {E : Int} {wa w2 : World} {o : Obj} (hM : w2.heap[wa.heap.size]? = some (.cells zeroBlR t (0, 0))) (hb : Below (wa.alloc o).drew.heap.size (wa.alloc o).drew w2) (hlo : wa.heap.size = lo) :
    UiI t lo b E wa (.pointer (some ⟨wa.heap.size, 0, none⟩)) (.int .i64 E) ((((w2.setCell ⟨wa.heap.size, 0, none⟩ (.int .i64 b.Kind)).setCell ⟨wa.heap.size, 1, none⟩ (.int .i64 b.Ino)).setCell ⟨wa.heap.size, 2, none⟩ (.int .i64 b.Nth)).setCell ⟨wa.heap.size, 3, none⟩ (.string b.Text)) :=
  have h1 : Below wa.heap.size wa (wa.alloc o).drew := ((Below.refl _ _).alloc (Nat.le_refl _) _).drew
  have hb' : Below wa.heap.size wa w2 := h1.trans (hb.mono h1.size)
  have m := row_store (j := 3) (v := .string b.Text) (row_store (j := 2) (v := .int .i64 b.Nth) (row_store (j := 1) (v := .int .i64 b.Ino) (row_store (j := 0) (v := .int .i64 b.Kind) hM)))
  ⟨_, rfl, rfl, by omega, m, (((hb'.setCell (Nat.le_refl _) _).setCell (Nat.le_refl _) _).setCell (Nat.le_refl _) _).setCell (Nat.le_refl _) _⟩
theorem aside_cellU {α : Type} {enc : α → List Value} {k n c B M z : Nat} {A : Option Addr} {xs : List α} {w : World} (r : RowsIn w B A n c enc k xs) (hM : ∀ b o, A = some ⟨b, o, none⟩ → 0 < n → b ≠ M) (v : Value) : RowsIn (w.setCell ⟨M, z, none⟩ v) B A n c enc k xs :=
  ⟨r.len, r.le, r.top, fun i x hx => by
    obtain ⟨b, o, e, hb, hc⟩ := r.at_ i x hx
    have h0 : 0 < n := by have := r.len; have := (List.getElem?_eq_some_iff.1 hx).1; omega
    exact ⟨b, o, e, hb, fun j u hu => (World.cell?_setCell_other _ _ _ _ (fun e2 => hM b o e h0 (by injection e2 with e2; exact e2.symm))).trans (hc j u hu)⟩⟩
theorem below_dN {B : Nat} {w0 W : World} (h : Below B w0 W) : ∀ m : Nat, Below B w0 (W.drewN m)
  | _ => h.trans ⟨rfl, rfl, rfl, Nat.le_refl _, fun _ _ => rfl⟩
def InPost (cs : List ByteArray) (ws : List PutD) (k : Nat) (p : PlaceD) (g : Int) (w : World) (e : Ending) (w' : World) : Prop :=
  (inOk cs ws k p g ∧ ∃ (K G S : Int) (D : Option Addr) (q d : Nat), e = .returned (.tuple #[.agg #[.int .i64 K, .int .i64 G, .int .i64 S, .slice D q d], .string (ubB cs ws p.Cell p.Nth).Text, .int .i64 0]) ∧ RowsIn w' w'.heap.size D q d PlaceD.cells 2 (pts cs ws p) ∧ Below w.heap.size w w' ∧ (∀ a, D = some a → w.heap.size ≤ a.block)) ∨
  (¬ inOk cs ws k p g ∧ e = .returned (.tuple #[.agg zeroIno, .string ⟨#[]⟩, .int .i64 18]) ∧ Below w.heap.size w w')
theorem new3n (w : World) (o1 o2 o3 : Obj) : (((w.alloc o1).alloc o2).alloc o3).heap.size = w.heap.size + 3 ∧ Below w.heap.size w (((w.alloc o1).alloc o2).alloc o3) :=
  ⟨by simp, (((Below.refl _ _).alloc (Nat.le_refl _) _).alloc (by simp) _).alloc (by simp; omega) _⟩
end Go.Proofs.Ytjmgocfoimhmjaa
