/- A part of the proof of FsMounts. No condition of ours. -/
import Derived.Test.YtcldpfhpkbeaiadGreatFsMounts14
import Derived.Test.YtcldpfhpkbeaiadGreatFsMounts16
set_option maxRecDepth 20000
set_option maxHeartbeats 2000000
namespace Go.Proofs.YtcldpfhpkbeaiadGreat
open Go.RowKit Go.PlainAid
theorem U6{w w':World}{B M n c:Nat}{A:Option Addr}{xs:List Int}{s:ByteArray}{b:Bool}{t:TypeId}(r:ab w B A n c (fun z=>[.int .i64 z]) 1 xs)(hr:w.heap[M]?=some (.cells #[.string s,.bool b] t (0,0)))(hB:B≤w.heap.size)(hg:w.grownBy w' (some M)):ab w' B A n c (fun z=>[.int .i64 z]) 1 xs:=
 ⟨r.len,r.le,r.top,fun i x hx=>by
   obtain⟨b,o,e,hb,hc⟩:=r.at_ i x hx
   have h0:=hc 0 _ rfl
   refine⟨b,o,e,hb,fun j u hu=>?_⟩
   have h1:b≠M:=fun e=>by
    subst e;rw [aj hr]at h0;match o+i*1+0,h0 with
    |0,h0=>simp at h0
    |1,h0=>simp at h0
    |k+2,h0=>simp at h0
   exact(World.cell?_of_block (a:=⟨b,_,none⟩) (hg.block b (by omega) (fun e=>h1 (by injection e)))).trans (hc j u hu)⟩
theorem rt{w:World}{M z:Nat}{v:Value}:w.grownBy (w.setCell ⟨M,z,none⟩ v) (some M):=
 ⟨rfl,rfl,rfl,by simp [World.setCell],fun k _ hne=>Below.heap_setCell w ⟨M,z,none⟩ v k (fun e=>hne (by rw [e]))⟩
theorem p0z{w w':World}{M:Nat}(h:Below w.heap.size w w'):w.grownBy w' (some M):=⟨h.os,h.tape,h.output,h.size,fun k hk _=>h.block k hk⟩
theorem w0r{W w2:World}{o:Obj}(h:Below (W.alloc o).heap.size (W.alloc o) w2):W.heap.size <w2.heap.size:=by have:=h.size;simp at this;omega
theorem r0p{W w2:World}{p:Addr}{v:Value}{A:Option Addr}{b o:Nat}(hA:∀a,A=some a→(w2.setCell p v).heap.size≤a.block)(h:W.heap.size <w2.heap.size)(e:A=some ⟨b,o,none⟩):b≠W.heap.size:=by have h1:=hA _ e;simp [World.setCell]at h1;omega
theorem Py(s:ByteArray)(B want:Nat)(W:World)(row:W.heap[B]?=some (.cells #[.string s,.bool false] 151 (0,0)))(hs:s.size≤1048575)(h:¬fm s want):
 Calls Tryz.prog 109 #[.pointer (some ⟨B,0,none⟩),.int .i64 want] W fun e w'=>e= .returned (.agg df)∧W.grownBy w' (some B)∧w'.heap[B]?=some (.cells #[.string s,.bool true] 151 (0,0)):=by
 have hh:=ag row
 have HR:Hid (∀V,Calls Tryz.prog 136 #[.string s] V fun e w'=>∃A q c,e= .returned (.tuple #[.slice A q c,.int .i64 (ct s),.int .i64 (rrE s)])∧ab w' w'.heap.size A q c (fun z=>[.int .i64 z]) 1 (rrX s)∧Below V.heap.size V w'):=fun V=>Pb s V (by omega)
 have c0:=rc0 row
 have ha:=h_ row
 have hd:Hid (df.all (·.oneCell')=true):=xm _ _ _ _ none 0 0 rfl
 have h7:Hid ((Tryz.prog.info? 189).map (·.size)=some df.size):=zq
 have he:Hid (∀V:World,(V.alloc (.cells df 189)).heap[V.heap.size]?=some (.cells df 189 (0,0))):=fun V=>A_ V _
 have HC:Hid (∀(A:Option Addr) (n c:Nat) (V:World),ab V V.heap.size A n c (fun z=>[.int .i64 z]) 1 (rrX s)→Calls Tryz.prog 137 #[.slice A n c] V fun e w'=>∃A q c,e= .returned (.tuple #[.slice A q c,.int .i64 (dt (rrX s))])∧Below V.heap.size V w'):=fun A n c V r=>(Xh A n c (rrX s) V r).mono (by rintro e w' ⟨A',q,c',h1,_,h2⟩;exact⟨A',q,c',h1,h2⟩)
 have hc:Hid (∀w1:World,Below (W.alloc (.cells df 189)).heap.size (W.alloc (.cells df 189)) w1→W.grownBy ((w1.setCell ⟨B,1,none⟩ (.bool true)).setRow W.heap.size df) (some B)∧((w1.setCell ⟨B,1,none⟩ (.bool true)).setRow W.heap.size df).heap[B]?=some (.cells #[.string s,.bool true] 151 (0,0))):=by
  intro w1 hb;have h6:Below W.heap.size W w1:=((br.alloc ler _)).trans (hb.mono (by simp));refine⟨⟨h6.os,h6.tape,h6.output,by simp [World.setRow,World.setCell];exact h6.size,fun k hk hne=>?_⟩,?_⟩
  ·rw [setRow_other _ _ _ _ (by omega),heap_setCell_other _ _ _ _ (fun e=>hne (by rw [e]))];exact h6.block k hk
  ·rw [setRow_other _ _ _ _ (by omega)];exact b9 (ah row hh h6)
 have HU:Hid (Tryz.prog.underlying 189=_):=Tryz.underlying189
 unfold fm at h
 generalize rrX s=X at*
 generalize rrE s=E at*
 generalize ct s=K at*
 by_cases hE:E=0
 ·by_cases hX:X.length=want
  ·have hC:dt X≠0:=fun k=>h ⟨hE,hX,k⟩
   have d0:(E !=0)=false:=by rw [hE];rfl
   have d1:((X.length:Int)!=(want:Int))=false:=by rw [bne_eq_false_iff_eq];omega
   have d2:(dt X !=0)=true:=by simpa using hC
   clear h hE hX hC row
   generalize dt X=Z at*
   go_enter Tryz.func109,Tryz.ntmps109
   go_wp2_with(first
    |(go_at_call 136;refine(HR.o _).mono ?_;rintro e w1 ⟨A1,n1,c1,rfl,r1,h0⟩;obtain rfl:=r1.len;have R1:=h_ r1;have h9:=h_ h0;clear r1 h0)
    |(go_at_call 137;refine(HC.o _ _ _ _ R1.o).mono ?_;rintro e w2 ⟨A2,n2,c2,rfl,hg⟩;have hf:=h_ (h9.o.trans (hg.mono h9.o.size));have HP:=hc.o _ hf.o;have h4:=ah (he.o W) (by simp) hf.o;have h3:=ah (cq ha.o (.cells df 189)) (by simp;omega) hf.o;have b1:=rc1 h3;have b2:=ak h3 1;have h5:=h_ (cp (a:=⟨B,1,none⟩) (v:=.bool true) h4 (by simp;omega));have h8:=h_ HP;clear HP h4 h3 hg)
    |(refine wpList_store_rowTo rfl _ _ _ rfl rfl W.heap.size df rfl rfl 189 df h5.o h7.o rfl hd.o ?_))
   refine bodyPost_ret (results_cell_row rfl _ _ W.heap.size _ df (0,0) _ rfl (bh h5.o) HU.o rfl h7.o) rfl ?_
   exact⟨rfl,h8.o⟩
  ·have d0:(E !=0)=false:=by rw [hE];rfl
   have d1:((X.length:Int)!=(want:Int))=true:=by rw [bne_iff_ne];omega
   clear h hE hX row
   go_enter Tryz.func109,Tryz.ntmps109
   go_wp2_with(first
   |(go_at_call 136;refine(HR.o _).mono ?_;rintro e w1 ⟨A1,n1,c1,rfl,r1,h0⟩;obtain rfl:=r1.len;have R1:=h_ r1;have HP:=hc.o _ h0;have h4:=ah (he.o W) (by simp) h0;have h3:=ah (cq ha.o (.cells df 189)) (by simp;omega) h0;have b1:=rc1 h3;have b2:=ak h3 1;have h5:=h_ (cp (a:=⟨B,1,none⟩) (v:=.bool true) h4 (by simp;omega));have h8:=h_ HP;have h9:=h_ h0;clear HP h4 h3 r1 h0)
   |(refine wpList_store_rowTo rfl _ _ _ rfl rfl W.heap.size df rfl rfl 189 df h5.o h7.o rfl hd.o ?_))
   refine bodyPost_ret (results_cell_row rfl _ _ W.heap.size _ df (0,0) _ rfl (bh h5.o) HU.o rfl h7.o) rfl ?_
   exact⟨rfl,h8.o⟩
 ·have d0:(E !=0)=true:=by simpa using hE
  clear h hE row
  go_enter Tryz.func109,Tryz.ntmps109
  go_wp2_with(first
   |(go_at_call 136;refine(HR.o _).mono ?_;rintro e w1 ⟨A1,n1,c1,rfl,r1,h0⟩;obtain rfl:=r1.len;have R1:=h_ r1;have HP:=hc.o _ h0;have h4:=ah (he.o W) (by simp) h0;have h3:=ah (cq ha.o (.cells df 189)) (by simp;omega) h0;have b1:=rc1 h3;have b2:=ak h3 1;have h5:=h_ (cp (a:=⟨B,1,none⟩) (v:=.bool true) h4 (by simp;omega));have h8:=h_ HP;have h9:=h_ h0;clear HP h4 h3 r1 h0)
   |(refine wpList_store_rowTo rfl _ _ _ rfl rfl W.heap.size df rfl rfl 189 df h5.o h7.o rfl hd.o ?_))
  refine bodyPost_ret (results_cell_row rfl _ _ W.heap.size _ df (0,0) _ rfl (bh h5.o) HU.o rfl h7.o) rfl ?_
  exact⟨rfl,h8.o⟩
def Ew(s:ByteArray)(B:Nat)(W:World)(e:Ending)(w':World):Prop:=∃A c,e= .returned (.agg (dy (.slice A (sgL (rrX s) 16).length c) (bkF (rrX s) 16) (bkG (rrX s) 16) (bkC (rrX s))))∧ab w' w'.heap.size A (sgL (rrX s) 16).length c (fun z=>[.int .i64 z]) 1 (sgL (rrX s) 16)∧W.grownBy w' (some B)∧w'.heap[B]?=some (.cells #[.string (aw s (ct s).toNat),.bool false] 151 (0,0))
theorem n0q{s:ByteArray}{B:Nat}{W w2 w3:World}{A:Option Addr}{c:Nat}{CS:Array Value}(hlt:B <W.heap.size)(hb0:Below W.heap.size W w2)(hb1:W.heap.size <w2.heap.size)(row:w2.heap[B]?=some (.cells #[.string s,.bool false] 151 (0,0)))(hres:w2.heap[W.heap.size]?=some (.cells df 189 (0,0)))(hb3:Below w2.heap.size (w2.setCell ⟨B,0,none⟩ (.string (aw s (ct s).toNat))) w3)(r:ab w3 w3.heap.size A (sgL (rrX s) 16).length c (fun z=>[.int .i64 z]) 1 (sgL (rrX s) 16))(hCS:CS=dy (.slice A (sgL (rrX s) 16).length c) (bkF (rrX s) 16) (bkG (rrX s) 16) (bkC (rrX s))):w3.heap[W.heap.size]?=some (.cells df 189 (0,0))∧((∀b o,A=some ⟨b,o,none⟩→0 < (sgL (rrX s) 16).length→b≠W.heap.size)→Ew s B W (.returned (.agg CS)) (w3.setRow W.heap.size CS)):=by
 have h3:w3.heap[W.heap.size]?=some (.cells df 189 (0,0)):=by rw [hb3.block _ hb1,heap_setCell_other _ _ _ _ (show W.heap.size≠B by omega)];exact hres
 refine⟨h3,fun hA=>?_⟩;subst hCS;have hz:=hb3.size;have h1:(w2.setCell ⟨B,0,none⟩ (.string (aw s (ct s).toNat))).heap.size=w2.heap.size:=by simp [World.setCell]
 refine⟨A,c,rfl,?_,⟨?_,?_,?_,?_,?_⟩,?_⟩
 ·exact⟨r.len,r.le,r.top,fun i x hx=>by
   obtain⟨b,o,e,hb,hc⟩:=r.at_ i x hx
   have h0:=hA b o e (by have:=(gS.1 hx).1;omega)
   exact⟨b,o,e,by simpa [World.setRow]using hb,fun j u hu=>(World.cell?_of_block (a:=⟨b,_,none⟩) (setRow_other _ _ _ _ h0)).trans (hc j u hu)⟩⟩
 ·exact hb3.os.trans hb0.os
 ·exact hb3.tape.trans hb0.tape
 ·exact hb3.output.trans hb0.output
 ·have:=hb0.size;simp [World.setRow];omega
 ·intro k hk h0;rw [setRow_other _ _ _ _ (by omega),hb3.block k (by have:=hb0.size;omega),heap_setCell_other _ _ _ _ (fun e=>h0 (by rw [e]))];exact hb0.block k hk
 ·rw [setRow_other _ _ _ _ (by omega),hb3.block B (by have:=hb0.size;omega)];exact b9 row
theorem g0h(s:ByteArray)(B want:Nat)(W:World)(row:W.heap[B]?=some (.cells #[.string s,.bool false] 151 (0,0)))(hs:s.size≤1048575)(h:fm s want)(hw:want≤320):Calls Tryz.prog 109 #[.pointer (some ⟨B,0,none⟩),.int .i64 want] W (Ew s B W):=by
 have hm:=ag row;have HR:Hid (∀V,Calls Tryz.prog 136 #[.string s] V fun e w'=>∃A q c,e= .returned (.tuple #[.slice A q c,.int .i64 (ct s),.int .i64 (rrE s)])∧ab w' w'.heap.size A q c (fun z=>[.int .i64 z]) 1 (rrX s)∧Below V.heap.size V w'):=fun V=>Pb s V (by omega)
 have c0:=rc0 row;have hn:=h_ row;have ht:Hid ((Tryz.prog.info? 189).map (·.size)=some df.size):=zq;have hp:Hid (∀V:World,(V.alloc (.cells df 189)).heap[V.heap.size]?=some (.cells df 189 (0,0))):=fun V=>A_ V _
 have HC:Hid (∀(A:Option Addr) (n c:Nat) (V:World),ab V V.heap.size A n c (fun z=>[.int .i64 z]) 1 (rrX s)→Calls Tryz.prog 137 #[.slice A n c] V fun e w'=>∃A q c,e= .returned (.tuple #[.slice A q c,.int .i64 (dt (rrX s))])∧Below V.heap.size V w'):=fun A n c V r=>(Xh A n c (rrX s) V r).mono (by rintro e w' ⟨A',q,c',h1,_,h2⟩;exact⟨A',q,c',h1,h2⟩)
 have HU:Hid (Tryz.prog.underlying 189=_):=Tryz.underlying189;obtain⟨hE,hX,hC⟩:=h;have ha:=Pg hE;obtain⟨k,hk⟩:=Int.eq_ofNat_of_zero_le ha.1;have HM:Hid (∀(A:Option Addr) (n c:Nat) (V:World),ab V V.heap.size A n c (fun z=>[.int .i64 z]) 1 (rrX s)→Calls Tryz.prog 138 #[.slice A n c] V (Fa (rrX s) V)):=fun A n c V r=>v0f A n c (rrX s) V r hC (by have:=r.len;omega)
 have h6:Hid (∀(w2 w3:World) (A:Option Addr) (c:Nat) (CS:Array Value),Below W.heap.size W w2→W.heap.size <w2.heap.size→w2.heap[B]?=some (.cells #[.string s,.bool false] 151 (0,0))→w2.heap[W.heap.size]?=some (.cells df 189 (0,0))→Below w2.heap.size (w2.setCell ⟨B,0,none⟩ (.string (aw s (ct s).toNat))) w3→ab w3 w3.heap.size A (sgL (rrX s) 16).length c (fun z=>[.int .i64 z]) 1 (sgL (rrX s) 16)→CS=dy (.slice A (sgL (rrX s) 16).length c) (bkF (rrX s) 16) (bkG (rrX s) 16) (bkC (rrX s))→w3.heap[W.heap.size]?=some (.cells df 189 (0,0))∧((∀b o,A=some ⟨b,o,none⟩→0 < (sgL (rrX s) 16).length→b≠W.heap.size)→Ew s B W (.returned (.agg CS)) (w3.setRow W.heap.size CS))):=fun w2 w3 A c CS a1 a2 a3 a4 a5 a6 a7=>n0q hm a1 a2 a3 a4 a5 a6 a7
 have hr:k≤s.size:=by omega
 have d0:(rrE s !=0)=false:=by rw [hE];rfl
 have d1:((want:Int)!=(want:Int))=false:=by rw [bne_eq_false_iff_eq]
 have d2:(dt (rrX s)!=0)=false:=by rw [hC];rfl
 have HX:=h_ hX;rw [hk]at HR h6;rw [Int.toNat_natCast]at h6;generalize Ew s B W=PP at*;unfold Fa at HM;generalize dt (rrX s)=Z at*;generalize bkF (rrX s) 16=F at*;generalize bkG (rrX s) 16=G at*;generalize bkC (rrX s)=C at*;generalize sgL (rrX s) 16=SG at*;generalize rrX s=X at*;generalize rrE s=E at*;clear hE hX hC ha hk row hw;go_enter Tryz.func109,Tryz.ntmps109
 go_wp2_with(first
  |(go_at_call 136;refine(HR.o _).mono ?_;rintro e w1 ⟨A1,n1,c1,rfl,r1,h7⟩;have he:=r1.len;rw [HX.o]at he;subst he;have R1:=h_ r1;have h9:=h_ h7;clear r1 h7)
  |(go_at_call 137;refine(HC.o _ _ _ _ R1.o).mono ?_;rintro e w2 ⟨A2,n2,c2,rfl,h0⟩;have h5:=h_ (h9.o.trans (h0.mono h9.o.size));have hj:=h_ (ah (hp.o W) (by simp) h5.o);have h4:=h_ (ah (cq hn.o (.cells df 189)) (by simp;omega) h5.o);have b1:=rc0 h4.o;have b2:=ak h4.o 0;have R2:=h_ (U6 ((R1.o.below h0).more h0.size) h4.o ler (rt (z:=0) (v:=.string (s.extract k s.size))));have hc:=h_ (w0r h5.o);clear h0)
  |(go_at_call 138;refine(HM.o _ _ _ _ (R2.o.more (by simp [World.setCell]))).mono ?_;rintro e w3 ⟨A3,c3,rfl,r3,hd,h8⟩;obtain⟨h3,hP⟩:=h6.o w2 w3 A3 c3 _ (((br.alloc ler _)).trans (h5.o.mono (by simp))) hc.o h4.o hj.o (hd.mono (by simp [World.setCell])) r3 rfl;have hh:=h_ (hP (fun b o e _=>r0p h8 hc.o e));have hq:Hid ((dy (.slice A3 SG.length c3) F G C).all (·.oneCell')=true):=xm _ _ _ _ A3 _ c3 rfl;have hf:Hid ((Tryz.prog.info? 189).map (·.size)=some (dy (.slice A3 SG.length c3) F G C).size):=zq;have hg:Hid (df.size=(dy (.slice A3 SG.length c3) F G C).size):=rfl;have H3:=h_ h3;clear h3 hP r3 hd h8;generalize dy (.slice A3 SG.length c3) F G C=CS at*)
  |(refine wpList_store_rowTo rfl _ _ _ rfl rfl W.heap.size CS rfl rfl 189 df H3.o hf.o hg.o hq.o ?_))
 refine bodyPost_ret (results_cell_row rfl _ _ W.heap.size _ CS (0,0) _ rfl (bh H3.o) HU.o rfl hf.o) rfl ?_;exact hh.o
def LgT(l:List Int)(c:Int)(w v:Nat):Prop:=0 <bkC l v∧c*2^(v-w) <bkF l 16 v+bkC l v∧bkF l 16 v <c*2^(v-w)+2^(v-w)
def Lg(l:List Int)(c:Int)(w:Nat):Prop:=∃v:Nat,w≤v∧v≤15∧LgT l c w v
theorem n0m{l:List Int}{c:Int}{w:Nat}(h:¬Hit l c w):Lg l c w↔Mor l c w:=by
 constructor
 ·rintro⟨v,h1,h2,h3,h4,h5⟩
  have hv:0 <v:=by
   rcases Nat.eq_zero_or_pos v with e|e
   ·subst e;unfold bkC at h3;simp at h3
   ·exact e
  unfold bkC at h3 h4;unfold bkF at h4 h5;rw [if_pos hv]at h3 h4;rw [if_pos ⟨hv,by omega⟩]at h4 h5;by_cases e:v=w
  ·subst e;rw [Nat.sub_self]at h4 h5;simp only [Int.pow_zero,Int.mul_one]at h4 h5;exact absurd ⟨by omega,by omega,by omega⟩ h
  ·exact⟨v,by omega,h2,h3,h4,by rw [Int.add_mul,Int.one_mul];exact h5⟩
 ·rintro⟨v,h1,h2,h3,h4,h5⟩;rw [Int.add_mul,Int.one_mul]at h5;refine⟨v,by omega,h2,?_,?_,?_⟩
  ·unfold bkC;rw [if_pos (by omega)];exact h3
  ·unfold bkC bkF;rw [if_pos (by omega),if_pos (by omega)];exact h4
  ·unfold bkF;rw [if_pos (by omega)];exact h5
theorem Yg{l:List Int}(h:dt l=0){v:Nat}(hv:v≤15):0≤bkF l 16 v∧0≤bkC l v∧bkF l 16 v+bkC l v≤32768:=by
 unfold bkF bkC;by_cases hv0:0 <v
 ·rw [if_pos ⟨hv0,by omega⟩,if_pos hv0];have h1:=Iu h hv0 hv
  have h2:(2:Int)^v≤32768:=by
   have:(2:Nat)^v≤2^15:=Nat.pow_le_pow_right (by omega) hv;have h2:((2^v:Nat):Int)≤((2^15:Nat):Int):=by exact_mod_cast this
   simpa using h2
  exact⟨zk _ _,(mr _ _).1,by omega⟩
 ·rw [if_neg (by omega),if_neg hv0];omega
theorem n0n(l:List Int)(v:Value)(c:Int)(x B:Nat)(W:World)(row:W.heap[B]?=some (.cells (dy v (bkF l 16) (bkG l 16) (bkC l)) 189 (0,0)))(hcan:dt l=0)(hx:x≤15)(hc0:0≤c)(hc1:c <2^x):Calls Tryz.prog 139 #[.pointer (some ⟨B,0,none⟩),.int .i64 c,.int .i64 x] W fun e w'=>∃(b:Bool) (q:Nat),e= .returned (.bool b)∧(b=true↔Lg l c x)∧w'=W.drewN q:=by
 have h5:=h_ row;have h8:Hid (∀k:Nat,k≤15→0≤bkF l 16 k∧0≤bkC l k∧bkF l 16 k+bkC l k≤32768):=fun k hk=>Yg hcan hk
 have h6:=h_ hc1;clear row hcan hc1;go_enter Tryz.func139,Tryz.ntmps139;go_wp2;go_loopw [7,8] (fun v7 _ wr=>∃k q:Nat,x≤k∧k≤16∧v7= .int .i64 k∧Hid (wr=W.drewN q)∧Hid (∀u:Nat,x≤u→u <k→¬LgT l c x u)) (fun v7 _ _=>16- (intOf v7).toNat)
 case atStart=>exact⟨x,0,Nat.le_refl _,by omega,rfl,rfl,fun u h1 h2=>by omega⟩
 case round=>
  obtain⟨k,q,h7,hg,rfl,HW,HN⟩:=hrel;by_cases hlt:k≤15
  ·have h4:wr.heap[B]?=some (.cells (dy v (bkF l 16) (bkG l 16) (bkC l)) 189 (0,0)):=by rw [HW.o];exact h5.o
   have cF:=(aj h4 (1+k)).trans (Ku v _ (bkG l 16) (bkC l) k (by omega));have cC:=(aj h4 (33+k)).trans (Kv v (bkF l 16) (bkG l 16) _ k (by omega));obtain⟨b1,b2,b3⟩:=h8.o k hlt;obtain⟨d,hd⟩:∃d:Nat,d=k-x:=⟨_,rfl⟩;have hh:(k:Int)- (x:Int)=(d:Int):=by omega
   have HT:Hid (LgT l c x k↔0 <bkC l k∧c*2^d <bkF l 16 k+bkC l k∧bkF l 16 k <c*2^d+2^d):=by rw [hd];exact Iff.rfl
   have h9:(1:Int)≤2^d:=Int.pow_pos (by decide)
   have hf:(2:Int)^d≤32768:=by
    have:(2:Nat)^d≤2^15:=Nat.pow_le_pow_right (by omega) (by omega);have h2:((2^d:Nat):Int)≤((2^15:Nat):Int):=by exact_mod_cast this
    simpa using h2
   have hc:0≤c*2^d:=Int.mul_nonneg hc0 (by omega)
   have he:c*2^d <32768:=by
    have h1:c*2^d <2^x*2^d:=Int.mul_lt_mul_of_pos_right h6.o (by omega);rw [←Int.pow_add]at h1;have:(2:Nat)^(x+d)≤2^15:=Nat.pow_le_pow_right (by omega) (by omega);have h2:((2^(x+d):Nat):Int)≤((2^15:Nat):Int):=by exact_mod_cast this
    have h3:(2:Int)^(x+d)≤32768:=by simpa using h2
    omega
   have ha:d≤15:=by omega
   generalize bkC l k=Ck at*;generalize bkF l 16 k=Fk at*;have HD:=h_ hd;clear hd h4;have i1:(k:Int)≤15:=by omega
   have i2:(0:Int)≤(k:Int):=by omega
   have i3:(k:Int) <16:=by omega
   have h0:Hid (¬(0 <Ck∧c*2^d <Fk+Ck∧Fk <c*2^d+2^d)→∀u:Nat,x≤u→u <k+1→¬LgT l c x u):=fun hn u h1 h2 h3=>by
    by_cases e:u=k
    ·subst e;exact hn (HT.o.1 h3)
    ·exact HN.o u h1 (by omega) h3
   have HY:Hid (0 <Ck∧c*2^d <Fk+Ck∧Fk <c*2^d+2^d→Lg l c x):=fun h=>⟨k,h7,hlt,HT.o.2 h⟩
   clear HT HN;go_wp2;generalize c*2^d=X at*;by_cases g1:0 <Ck
   ·by_cases g2:X <Fk+Ck
    ·by_cases g3:Fk <X+2^d
     ·have F:=HY.o ⟨g1,g2,g3⟩;have f1:=dT g1;have f2:=dT g2;have f3:=dT g3;clear HY h0;go_quiet(fail);go_wp2;go_ret;exact⟨true,q+nq,rfl,by simp [F],by rw [HW.o,World.drewN_drewN]⟩
     ·have F:Hid (∀u:Nat,x≤u→u <k+1→¬LgT l c x u):=h0.o (fun h=>g3 h.2.2);have f1:=dT g1;have f2:=dT g2;have f3:=dF g3;clear HY h0;go_quiet(fail);go_wp2;go_roundw
      case rel=>exact⟨k+1,q+nq,by omega,by omega,by go_num,by simp only [Hid];rw [HW.o,World.drewN_drewN],F⟩
      case measure=>(simp [intOf];try omega)
    ·have F:Hid (∀u:Nat,x≤u→u <k+1→¬LgT l c x u):=h0.o (fun h=>g2 h.2.1);have f1:=dT g1;have f2:=dF g2;clear HY h0;go_quiet(fail);go_wp2;go_roundw
     case rel=>exact⟨k+1,q+nq,by omega,by omega,by go_num,by simp only [Hid];rw [HW.o,World.drewN_drewN],F⟩
     case measure=>(simp [intOf];try omega)
   ·have F:Hid (∀u:Nat,x≤u→u <k+1→¬LgT l c x u):=h0.o (fun h=>g1 h.1);have f1:=dF g1;clear HY h0;go_quiet(fail);go_wp2;go_roundw
    case rel=>exact⟨k+1,q+nq,by omega,by omega,by go_num,by simp only [Hid];rw [HW.o,World.drewN_drewN],F⟩
    case measure=>(simp [intOf];try omega)
  ·have i1:¬(k:Int)≤15:=by omega
   have F:¬Lg l c x:=by rintro⟨u,h1,h2,h3⟩;exact HN.o u h1 (by omega) h3
   clear HN;go_wp2;go_ret;exact⟨rfl,q,HW.o⟩
end Go.Proofs.YtcldpfhpkbeaiadGreat
