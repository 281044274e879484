/- The program's plain structs, as Lean has them here: their cells in order. -/
import Derived.Test.YtgidfmdbaimcnaaDoorKit
namespace Go.Proofs.YtgidfmdbaimcnaaDoor
open Go.RowKit

structure Mark where
  Len : Int
  Dist : Int
  Byte : Int
def Mark.cells (m : Mark) : List Value := [.int .i64 m.Len, .int .i64 m.Dist, .int .u8 m.Byte]
def Mark.ok (m : Mark) : Prop := (Lit.int .i64 m.Len).wf = true ∧ (Lit.int .i64 m.Dist).wf = true ∧ (Lit.int .u8 m.Byte).wf = true
structure Piece where
  Val : Int
  Width : Int
def Piece.cells (m : Piece) : List Value := [.int .u64 m.Val, .int .i64 m.Width]
def Piece.ok (m : Piece) : Prop := (Lit.int .u64 m.Val).wf = true ∧ (Lit.int .i64 m.Width).wf = true
structure OpD where
  Kind : Int
  At : Int
  Text : ByteArray
def OpD.cells (m : OpD) : List Value := [.int .i64 m.Kind, .int .i64 m.At, .string m.Text]
def OpD.ok (m : OpD) : Prop := (Lit.int .i64 m.Kind).wf = true ∧ (Lit.int .i64 m.At).wf = true ∧ m.Text.size ≤ maxLen
structure PutD where
  At : Int
  Text : ByteArray
def PutD.cells (m : PutD) : List Value := [.int .i64 m.At, .string m.Text]
def PutD.ok (m : PutD) : Prop := (Lit.int .i64 m.At).wf = true ∧ m.Text.size ≤ maxLen
structure BlobD where
  Kind : Int
  Ino : Int
  Nth : Int
  Text : ByteArray
def BlobD.cells (m : BlobD) : List Value := [.int .i64 m.Kind, .int .i64 m.Ino, .int .i64 m.Nth, .string m.Text]
def BlobD.ok (m : BlobD) : Prop := (Lit.int .i64 m.Kind).wf = true ∧ (Lit.int .i64 m.Ino).wf = true ∧ (Lit.int .i64 m.Nth).wf = true ∧ m.Text.size ≤ maxLen
structure PlaceD where
  Cell : Int
  Nth : Int
def PlaceD.cells (m : PlaceD) : List Value := [.int .i64 m.Cell, .int .i64 m.Nth]
def PlaceD.ok (m : PlaceD) : Prop := (Lit.int .i64 m.Cell).wf = true ∧ (Lit.int .i64 m.Nth).wf = true
structure EntD where
  Name : ByteArray
  Ino : Int
def EntD.cells (m : EntD) : List Value := [.string m.Name, .int .i64 m.Ino]
def EntD.ok (m : EntD) : Prop := m.Name.size ≤ maxLen ∧ (Lit.int .i64 m.Ino).wf = true
end Go.Proofs.YtgidfmdbaimcnaaDoor
