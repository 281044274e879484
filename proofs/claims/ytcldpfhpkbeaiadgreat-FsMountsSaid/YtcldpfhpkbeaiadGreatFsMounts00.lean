/- A part of the proof of FsMounts: short names for lemmas of the library. No condition of ours. -/
import Derived.WalkKit
import Derived.Lib.Hide
import Derived.Test.YtcldpfhpkbeaiadGreatRows
namespace Go.RowKit
theorem Hid.o{p:Prop}(h:Hid p):p:=h.out
end Go.RowKit
namespace Go.Proofs.YtcldpfhpkbeaiadGreat
open Go.RowKit
theorem h_{p:Prop}(h:p):Hid p:=Lib.hid h
theorem br{n:Nat}{w:World}:Below n w w:=Below.refl _ _
theorem ler{n:Nat}:n≤n:=Nat.le_refl n
theorem gE{α:Type}{l:List α}{i:Nat}(h:i<l.length):l[i]?=some (l[i]):=List.getElem?_eq_getElem h
theorem bF{α:Type}[BEq α][LawfulBEq α]{a b:α}(h:a≠b):(a==b)=false:=beq_eq_false_iff_ne.2 h
theorem bN{α:Type}[BEq α][LawfulBEq α]{a b:α}(h:a≠b):(a != b)=true:=bne_iff_ne.2 h
theorem sA{α:Type}{l:List α}{i:Nat}:l.toArray[i]?=l[i]?:=List.getElem?_toArray
theorem sB{α:Type}{l:List α}{a:α}{i:Nat}:(a::l)[i+1]?=l[i]?:=List.getElem?_cons_succ
theorem sC{α:Type}{l:List α}{a:α}:(a::l)[0]?=some a:=List.getElem?_cons_zero
theorem sD{α:Type}(l:List α)(i:Nat)(a:α):l.toArray.setIfInBounds i a=(l.set i a).toArray:=List.setIfInBounds_toArray l i a
theorem sE{α:Type}{l:List α}{a b:α}:(a::l).set 0 b=b::l:=List.set_cons_zero
theorem sF{α:Type}{l:List α}{a b:α}{n:Nat}:(a::l).set (n+1) b=a::l.set n b:=List.set_cons_succ
theorem dF{p:Prop}[Decidable p](h:¬p):decide p=false:=decide_eq_false h
theorem dT{p:Prop}[Decidable p](h:p):decide p=true:=decide_eq_true h
theorem gD{α:Type}(l:List α)(i:Nat)(d:α):l.getD i d=l[i]?.getD d:=List.getD_eq_getElem?_getD
theorem zl{n:Nat}:0≤n:=Nat.zero_le n
theorem A_(w:World)(o:Obj):(w.alloc o).heap[w.heap.size]?=some o:=heap_alloc_new w o
theorem gS{α:Type}{l:List α}{i:Nat}{a:α}:l[i]?=some a↔∃ h:i<l.length,l[i]=a:=List.getElem?_eq_some_iff
section
variable{W:World}{b:Nat}{a a1 a2 a3 a4 a5 a6 a7:Value}{l:List Value}{t:TypeId}{f:Nat×Nat}
theorem rc0(h:W.heap[b]?=some (.cells (a::l).toArray t f)):W.cell? ⟨b,0,none⟩=some a:=cell_of_row W b 0 _ t f h
theorem rc1(h:W.heap[b]?=some (.cells (a::a1::l).toArray t f)):W.cell? ⟨b,1,none⟩=some a1:=cell_of_row W b 1 _ t f h
theorem rc2(h:W.heap[b]?=some (.cells (a::a1::a2::l).toArray t f)):W.cell? ⟨b,2,none⟩=some a2:=cell_of_row W b 2 _ t f h
theorem rc3(h:W.heap[b]?=some (.cells (a::a1::a2::a3::l).toArray t f)):W.cell? ⟨b,3,none⟩=some a3:=cell_of_row W b 3 _ t f h
theorem rc4(h:W.heap[b]?=some (.cells (a::a1::a2::a3::a4::l).toArray t f)):W.cell? ⟨b,4,none⟩=some a4:=cell_of_row W b 4 _ t f h
theorem rc5(h:W.heap[b]?=some (.cells (a::a1::a2::a3::a4::a5::l).toArray t f)):W.cell? ⟨b,5,none⟩=some a5:=cell_of_row W b 5 _ t f h
theorem rc6(h:W.heap[b]?=some (.cells (a::a1::a2::a3::a4::a5::a6::l).toArray t f)):W.cell? ⟨b,6,none⟩=some a6:=cell_of_row W b 6 _ t f h
theorem rc7(h:W.heap[b]?=some (.cells (a::a1::a2::a3::a4::a5::a6::a7::l).toArray t f)):W.cell? ⟨b,7,none⟩=some a7:=cell_of_row W b 7 _ t f h
end
end Go.Proofs.YtcldpfhpkbeaiadGreat
