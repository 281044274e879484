/- A part of the proof of FsMounts. No condition of ours. -/
import Derived.Test.YtcldpfhpkbeaiadGreatFsMounts12
set_option maxRecDepth 20000
set_option maxHeartbeats 2000000
namespace Go.Proofs.YtcldpfhpkbeaiadGreat
section
open Go.RowKit Go.PlainAid
theorem du:(Tryz.prog.info? 67).map (·.size)=some 4:=by kernel_rfl
theorem U8:(Tryz.prog.info? 89).map (fun i=>(i.zero,i.size,i.bytes))=some (some (.agg #[.int .i64 0,.int .i64 0]),2,16):=by kernel_rfl
theorem C6:∀x:aa,x.cells.length=2:=fun _=>rfl
abbrev bf:Array Value:= #[.int .i64 0,.int .i64 0,.int .i64 0,.slice none 0 0]
theorem us(w:World)(B:Nat):ab w B none 0 0 aa.cells 2 []:=⟨rfl,Nat.le_refl _,zl,fun i x h=>by simp at h⟩
theorem o0s(s:ByteArray)(w:World)(h7:s.size <7):Calls Tryz.prog 89 #[.string s] w fun e w'=>∃A n c,e= .returned (.tuple #[.agg #[.int .i64 (irK s),.int .i64 (irG s),.int .i64 (irS s),.slice A n c],.int .i64 (irE s)])∧ab w' w'.heap.size A n c aa.cells 2 (irP s)∧Below w.heap.size w w'∧(∀a,A=some a→w.heap.size≤a.block):=by have F:=h_ (rh (s:=s) (fun h=>by have:=h.1;omega));go_enter Tryz.func89,Tryz.ntmps89;go_wp2;refine bodyPost_ret (cv rfl _ _ w.heap.size _ bf (0,0) _ rfl (A_ w _) Tryz.underlying67 rfl du) rfl ?_;exact⟨none,0,0,by rw [F.o.1,F.o.2.1,F.o.2.2.1,F.o.2.2.2.1];rfl,by rw [F.o.2.2.2.2];exact us _ _,br.alloc ler _,fun a h=>by cases h⟩
theorem o0v(s:ByteArray)(w:World)(h7:¬s.size <7)(h2:s.size%2=0):Calls Tryz.prog 89 #[.string s] w fun e w'=>∃A n c,e= .returned (.tuple #[.agg #[.int .i64 (irK s),.int .i64 (irG s),.int .i64 (irS s),.slice A n c],.int .i64 (irE s)])∧ab w' w'.heap.size A n c aa.cells 2 (irP s)∧Below w.heap.size w w'∧(∀a,A=some a→w.heap.size≤a.block):=by
 have F:=h_ (rh (s:=s) (fun h=>by have:=h.2.1;omega));have h0:((s.size:Int)%2==0)=true:=by rw [beq_iff_eq];omega
 go_enter Tryz.func89,Tryz.ntmps89;go_wp2;refine bodyPost_ret (cv rfl _ _ w.heap.size _ bf (0,0) _ rfl (A_ w _) Tryz.underlying67 rfl du) rfl ?_;exact⟨none,0,0,by rw [F.o.1,F.o.2.1,F.o.2.2.1,F.o.2.2.2.1];rfl,by rw [F.o.2.2.2.2];exact us _ _,br.alloc ler _,fun a h=>by cases h⟩
theorem o0t(s:ByteArray)(w:World)(hsz:s.size≤1048575)(h7:¬s.size <7)(h2:s.size%2=1):Calls Tryz.prog 89 #[.string s] w fun e w'=>∃A n c,e= .returned (.tuple #[.agg #[.int .i64 (irK s),.int .i64 (irG s),.int .i64 (irS s),.slice A n c],.int .i64 (irE s)])∧ab w' w'.heap.size A n c aa.cells 2 (irP s)∧Below w.heap.size w w'∧(∀a,A=some a→w.heap.size≤a.block):=by
 have hK:((s.size:Int)%2==0)=false:=by rw [beq_eq_false_iff_ne];omega
 have hX:=get_bt s;have hG:=N9 s (by omega);have hS:=N8 s (by omega);have wK:wrap64 (bt s 0)=iK s:=by have:=bt_nonneg s 0;have:=bt_le s 0;unfold wrap64 iK;omega
 have wG:wrap64 (iG s)=iG s:=by have:=Un s;unfold wrap64;omega
 have wS:wrap64 (iS s)=iS s:=by have:=Dd s;unfold wrap64;omega
 have C:Hid (∀(t:ByteArray) (W:World),Calls Tryz.prog 49 #[.string t] W fun e w'=>e= .returned (.tuple #[.int .u64 (fh t),.int .i64 (kg t)])∧W=w'):=fun t W=>G1 t W
 have hh:Hid (-9223372036854775808≤iS s∧iS s≤9223372036854775807):=by have:=Dd s;exact⟨by omega,by omega⟩
 have HN:=h_ (Um s (by omega));obtain⟨N,hN⟩:∃N,N=iN s:=⟨_,rfl⟩;have hL:7+2*N≤s.size:=by have:=HN.o;omega
 have hM:s.size <9+2*N:=by have:=HN.o;omega
 have hx:=h_ hN;clear hN;go_enter Tryz.func89,Tryz.ntmps89;go_wp2_with(go_at_call 49;refine(C.o _ _).mono ?_;rintro e w' ⟨rfl,rfl⟩);go_loopw [9] (fun v9 wr=>∃k j:Nat,j≤7+2*k∧7+2*k≤j∧k≤N∧v9= .int .i64 j∧Hid (wr.heap[w.heap.size]?=some (.cells bf 67))∧Below w.heap.size w wr∧∃(A:Option Addr) (c:Nat),Hid (wr.heap[w.heap.size+1]?=some (.cells #[.int .i64 (iK s),.int .i64 (iG s),.int .i64 (iS s),.slice A k c] 67))∧Hid (af wr (w.heap.size+2) 2 (.slice A k c) k ((iP s k).flatMap aa.cells))) (fun v9 _=>s.size- (intOf v9).toNat)
 case atStart=>
  refine⟨0,7,Nat.le_refl _,Nat.le_refl _,zl,rfl,?_,?_,none,0,?_,?_⟩
  ·exact heap_alloc2_old _ _ _
  ·exact(br.alloc ler _).alloc (by simp) _
  ·exact heap_alloc2_new _ _ _
  ·exact af.nil _ _ _
 case round=>
  obtain⟨k,j,hj,hW,hk,rfl,h4,hb,A,c,h0,h3⟩:=hrel;have h0:=h0.o;have h4:=h4.o;have h3:=h3.o;have h8:=ag h0;by_cases hlt:k <N
  ·have hm:=rc3 h0;have hY:j <s.size:=by omega
   have hJ:j+1 <s.size:=by omega
   have i1:(j:Int) < (s.size:Int):=by omega
   have i2:(j:Int)+1 < (s.size:Int):=by omega
   have i3:(0:Int)≤(j:Int)+1:=by omega
   have i4:((j:Int)+1).toNat=j+1:=by omega
   have i5:IntKind.i64.wrap ((j:Int)+1)=(j:Int)+1:=by rw [IntKind.wrap_i64];omega
   have hT:wrap64 ((j:Int)+1)=(j:Int)+1:=by unfold wrap64;omega
   have u1:wrap64 (bt s j)=bt s j:=by have:=bt_nonneg s j;have:=bt_le s j;unfold wrap64;omega
   have u2:wrap64 (bt s (j+1))=bt s (j+1):=by have:=bt_nonneg s (j+1);have:=bt_le s (j+1);unfold wrap64;omega
   have HX:Hid ((iP s (k+1)).flatMap aa.cells=(iP s k).flatMap aa.cells++[.int .i64 (bt s j),.int .i64 (bt s (j+1))]):=by simp only [Hid];rw [Jg,List.flatMap_append,show j=7+2*k by omega,show 7+2*k+1=8+2*k by omega];rfl
   have hn:Value.ownBlock (.slice A k c)≠some (w.heap.size+1):=fun e=>by have:=(h3.lt _ e).1;omega
   have hg:Value.ownBlock (.slice A k c)≠some w.heap.size:=fun e=>by have:=(h3.lt _ e).1;omega
   generalize hU:(iP s k).flatMap aa.cells=U at*;clear hU;have v1:IntKind.i64.wrap (bt s j)=bt s j:=by have:=bt_nonneg s j;have:=bt_le s j;rw [IntKind.wrap_i64];omega
   have v2:IntKind.i64.wrap (bt s (j+1))=bt s (j+1):=by have:=bt_nonneg s (j+1);have:=bt_le s (j+1);rw [IntKind.wrap_i64];omega
   have G2:Hid (∀u∈(#[.int .i64 (bt s j),.int .i64 (bt s (j+1))]:Array Value).toList,u.oneCell'=true):=by simp [Hid,Value.oneCell']
   have G3:Hid (k+1≤maxLen∧(k+1)*16≤140737488355328):=by unfold maxLen Hid;omega
   have G4:Hid (0 <2):=by simp [Hid]
   have GO:Hid (af (wr.alloc (.cells #[.int .i64 (bt s j),.int .i64 (bt s (j+1))] 89)).drew (w.heap.size+2) 2 (.slice A k c) k U):=(h3.alloc _).drew;have GB:Hid (w.heap.size+2≤(wr.alloc (.cells #[.int .i64 (bt s j),.int .i64 (bt s (j+1))] 89)).drew.heap.size):=by simp [Hid];omega
   have GH:Hid ((wr.alloc (.cells #[.int .i64 (bt s j),.int .i64 (bt s (j+1))] 89)).drew.heap[wr.heap.size]?=some (.cells #[.int .i64 (bt s j),.int .i64 (bt s (j+1))] 89)):=A_ wr _;have GR:Hid ((wr.alloc (.cells #[.int .i64 (bt s j),.int .i64 (bt s (j+1))] 89)).drew.heap[w.heap.size+1]?=some (.cells #[.int .i64 (iK s),.int .i64 (iG s),.int .i64 (iS s),.slice A k c] 67)):=cq h0 _;have hp:Hid ((wr.alloc (.cells #[.int .i64 (bt s j),.int .i64 (bt s (j+1))] 89)).drew.heap[w.heap.size]?=some (.cells bf 67)):=cq h4 _;have GZ:Hid (Below w.heap.size w (wr.alloc (.cells #[.int .i64 (bt s j),.int .i64 (bt s (j+1))] 89)).drew):=(hb.alloc hb.size _).drew;have hC:=h_ h0;have h5:=h_ h4;have HB:=h_ hb;have N1:=h_ hn;have N0:=h_ hg;clear h0 h4 hn hg h3 hb;go_wp2
   go_region_law(first
    |(refine oh (P:=Tryz.prog) (e:=89) (z:=.agg #[.int .i64 0,.int .i64 0]) (size:=2) (bytes:=16) (base:=w.heap.size+2) rfl (.tmp 47) (.tmp 58) 40 rfl Tryz.underlying40 U8 rfl G4.o A k c U rfl GO.o GB.o wr.heap.size 1 #[.int .i64 (bt s j),.int .i64 (bt s (j+1))] 89 rfl GH.o rfl G2.o G3.o.1 G3.o.2 ?_;intro A' c' w2 hd h6 hH;have h9:=dw GR.o h6 N1.o;have hq:=aj h9 3;have hf:=ak h9 3;simp only [sA,sB,sC]at hq))
   all_goals
    have hz:=h_ (b9 (j:=3) (v:=.slice A' (k+1) c') h9);have hF:=h_ (cp (a:=⟨w.heap.size+1,3,none⟩) (v:=.slice A' (k+1) c') (dw hp.o h6 N0.o) (show w.heap.size≠w.heap.size+1 by omega));have hD:=h6.size;have hs:=hd.setOther (p:=⟨w.heap.size+1,3,none⟩) (fun e=>by have e2:w.heap.size+2≤w.heap.size+1:=(hd.lt _ e).1;omega) (.slice A' (k+1) c');have hV:Below w.heap.size w (w2.setCell ⟨w.heap.size+1,3,none⟩ (.slice A' (k+1) c')):=(h6.below (by omega) GZ.o).setCell (by simp) _;clear hq hf h9 h6 hd GO GB GH GR hp GZ;generalize w2.setCell ⟨w.heap.size+1,3,none⟩ (.slice A' (k+1) c')=w3 at*;go_wp2;go_roundw
    case rel=>exact⟨k+1,j+2,by omega,by omega,by omega,by go_num,A',c',hz,by simp only [Hid];rw [HX.o];exact hs⟩
    case measure=>simp [intOf];omega
  ·obtain rfl:k=N:=by omega
   have hu:=rc0 h0;have ht:=rc1 h0;have hA:=rc2 h0;have hm:=rc3 h0;have he:Hid (k=iN s):=hx.o;have hZ:(s.size:Int)≤(j:Int):=by omega
   have hB:¬(j:Int) < (s.size:Int):=by omega
   have hP:wrap64 ((j:Int)+1)=(j:Int)+1:=by unfold wrap64;omega
   have hQ:(s.size:Int)≤(j:Int)+1:=by omega
   have hv:Below w.heap.size w wr:=hb;have hI:Hid (@du= @du):=rfl;have H:=h_ (o0y (iK s) (iG s) (iS s) A k c (iP s k) wr hh.o.1 hh.o.2 (h3.rows C6 (by omega)));have hy:Hid ((#[.int .i64 (iK s),.int .i64 (iG s),.int .i64 (iS s),.slice A k c]:Array Value).all (·.oneCell')=true):=by simp [Hid,Value.oneCell']
   have hr:Hid ((bf:Array Value).all (·.oneCell')=true):=by simp [Hid,Value.oneCell']
   have hw:=h_ h3;have ha:=h_ h4;have hc:=h_ hb;clear h3 h4 h0 hb hv;by_cases hE:ez (iK s) (iG s) (iS s) (iP s k)=0
   ·have F:=h_ (zn (s:=s) ⟨by omega,h2,by rw [←he.o];exact hE⟩);rw [hE]at H;clear hE
    go_wp2_with(first
     |(go_at_call 115;refine H.o.mono ?_;rintro e w1 ⟨rfl,h1⟩;have HB:=h_ (hc.o.trans (h1.mono hc.o.size));have HO:=h_ (hw.o.fresh_below h1);have h5:=h_ (ah ha.o (ag ha.o) h1);have k0:=(h1.cell (p:=⟨w.heap.size+1,0,none⟩) h8).trans hu;have k1:=(h1.cell (p:=⟨w.heap.size+1,1,none⟩) h8).trans ht;have k2:=(h1.cell (p:=⟨w.heap.size+1,2,none⟩) h8).trans hA;have k3:=(h1.cell (p:=⟨w.heap.size+1,3,none⟩) h8).trans hm)
     |(refine wpList_store_rowTo rfl _ _ _ rfl rfl w.heap.size #[.int .i64 (iK s),.int .i64 (iG s),.int .i64 (iS s),.slice A k c] rfl rfl 67 bf h5.o du rfl hy.o ?_))
    refine bodyPost_ret (cv rfl _ _ w.heap.size _ #[.int .i64 (iK s),.int .i64 (iG s),.int .i64 (iS s),.slice A k c] (0,0) _ rfl (bh h5.o) Tryz.underlying67 rfl du) rfl ?_;exact⟨A,k,c,by rw [F.o.1,F.o.2.1,F.o.2.2.1,F.o.2.2.2.1];rfl,by rw [F.o.2.2.2.2,←he.o];exact(HO.o.setRow (by omega) _).rows C6 (by omega),below_setRow HB.o ler _,fun a h=>by subst h;have:=(HO.o.lt a.block rfl).1;omega⟩
   ·have F:=h_ (rh (s:=s) (fun h=>hE (by rw [he.o];exact h.2.2)));have hR:(ez (iK s) (iG s) (iS s) (iP s k)!=0)=true:=bN hE;generalize ez (iK s) (iG s) (iS s) (iP s k)=ee at*;clear hE
    go_wp2_with(first
     |(go_at_call 115;refine H.o.mono ?_;rintro e w1 ⟨rfl,h1⟩;have HB:=h_ (hc.o.trans (h1.mono hc.o.size));have h5:=h_ (ah ha.o (ag ha.o) h1))
     |(refine wpList_store_rowTo rfl _ _ _ rfl rfl w.heap.size bf rfl rfl 67 bf h5.o du rfl hr.o ?_))
    refine bodyPost_ret (cv rfl _ _ w.heap.size _ bf (0,0) _ rfl (bh h5.o) Tryz.underlying67 rfl du) rfl ?_;exact⟨none,0,0,by rw [F.o.1,F.o.2.1,F.o.2.2.1,F.o.2.2.2.1];rfl,by rw [F.o.2.2.2.2];exact us _ _,below_setRow HB.o ler _,fun a h=>by cases h⟩
theorem o0p(s:ByteArray)(w:World)(h7:s.size <7):Calls Tryz.prog 70 #[.string s] w fun e w'=>∃A n c,e= .returned (.tuple #[.agg #[.int .i64 (irK s),.int .i64 (irG s),.int .i64 (irS s),.slice A n c],.int .i64 (irE s)])∧ab w' w'.heap.size A n c aa.cells 2 (irP s)∧Below w.heap.size w w'∧(∀a,A=some a→w.heap.size≤a.block):=by have F:=h_ (rh (s:=s) (fun h=>by have:=h.1;omega));go_enter Tryz.func70,Tryz.ntmps70;go_wp2;refine bodyPost_ret (cv rfl _ _ w.heap.size _ bf (0,0) _ rfl (A_ w _) Tryz.underlying67 rfl du) rfl ?_;exact⟨none,0,0,by rw [F.o.1,F.o.2.1,F.o.2.2.1,F.o.2.2.2.1];rfl,by rw [F.o.2.2.2.2];exact us _ _,br.alloc ler _,fun a h=>by cases h⟩
theorem o0q(s:ByteArray)(w:World)(hsz:s.size≤1048575)(h7:¬s.size <7):Calls Tryz.prog 70 #[.string s] w fun e w'=>∃A n c,e= .returned (.tuple #[.agg #[.int .i64 (irK s),.int .i64 (irG s),.int .i64 (irS s),.slice A n c],.int .i64 (irE s)])∧ab w' w'.heap.size A n c aa.cells 2 (irP s)∧Below w.heap.size w w'∧(∀a,A=some a→w.heap.size≤a.block):=by
 have hX:=get_bt s;have hG:=N9 s (by omega);have hS:=N8 s (by omega);have wK:wrap64 (bt s 0)=iK s:=by have:=bt_nonneg s 0;have:=bt_le s 0;unfold wrap64 iK;omega
 have wG:wrap64 (iG s)=iG s:=by have:=Un s;unfold wrap64;omega
 have wS:wrap64 (iS s)=iS s:=by have:=Dd s;unfold wrap64;omega
 have C:Hid (∀(t:ByteArray) (W:World),Calls Tryz.prog 97 #[.string t] W fun e w'=>e= .returned (.tuple #[.int .u64 (fh t),.int .i64 (kg t)])∧W=w'):=fun t W=>G0 t W
 have hn:Hid (-9223372036854775808≤iS s∧iS s≤9223372036854775807):=by have:=Dd s;exact⟨by omega,by omega⟩
 have HN:=h_ (Um s (by omega));obtain⟨N,hN⟩:∃N,N=iN s:=⟨_,rfl⟩;have hM:7+2*N≤s.size:=by have:=HN.o;omega
 have hP:s.size <9+2*N:=by have:=HN.o;omega
 have hA:=h_ hN;clear hN;go_enter Tryz.func70,Tryz.ntmps70;go_wp2_with(go_at_call 97;refine(C.o _ _).mono ?_;rintro e w' ⟨rfl,rfl⟩);go_loopw [9] (fun v9 wr=>∃k j:Nat,j≤7+2*k∧7+2*k≤j∧k≤N∧v9= .int .i64 j∧Hid (wr.heap[w.heap.size]?=some (.cells bf 67))∧Below w.heap.size w wr∧∃(A:Option Addr) (c:Nat),Hid (wr.heap[w.heap.size+1]?=some (.cells #[.int .i64 (iK s),.int .i64 (iG s),.int .i64 (iS s),.slice A k c] 67))∧Hid (af wr (w.heap.size+2) 2 (.slice A k c) k ((iP s k).flatMap aa.cells))) (fun v9 _=>s.size- (intOf v9).toNat)
 case atStart=>
  refine⟨0,7,Nat.le_refl _,Nat.le_refl _,zl,rfl,?_,?_,none,0,?_,?_⟩
  ·exact heap_alloc2_old _ _ _
  ·exact(br.alloc ler _).alloc (by simp) _
  ·exact heap_alloc2_new _ _ _
  ·exact af.nil _ _ _
 case round=>
  obtain⟨k,j,hj,hW,hk,rfl,h5,hb,A,c,h1,h4⟩:=hrel;have h1:=h1.o;have h5:=h5.o;have h4:=h4.o;have hc:=ag h1;by_cases hlt:k <N
  ·have hp:=rc3 h1;have hY:j <s.size:=by omega
   have hL:j+1 <s.size:=by omega
   have i1:(j:Int) < (s.size:Int):=by omega
   have i2:(j:Int)+1 < (s.size:Int):=by omega
   have i3:(0:Int)≤(j:Int)+1:=by omega
   have i4:((j:Int)+1).toNat=j+1:=by omega
   have i5:IntKind.i64.wrap ((j:Int)+1)=(j:Int)+1:=by rw [IntKind.wrap_i64];omega
   have hT:wrap64 ((j:Int)+1)=(j:Int)+1:=by unfold wrap64;omega
   have u1:wrap64 (bt s j)=bt s j:=by have:=bt_nonneg s j;have:=bt_le s j;unfold wrap64;omega
   have u2:wrap64 (bt s (j+1))=bt s (j+1):=by have:=bt_nonneg s (j+1);have:=bt_le s (j+1);unfold wrap64;omega
   have HX:Hid ((iP s (k+1)).flatMap aa.cells=(iP s k).flatMap aa.cells++[.int .i64 (bt s j),.int .i64 (bt s (j+1))]):=by simp only [Hid];rw [Jg,List.flatMap_append,show j=7+2*k by omega,show 7+2*k+1=8+2*k by omega];rfl
   have hs:Value.ownBlock (.slice A k c)≠some (w.heap.size+1):=fun e=>by have:=(h4.lt _ e).1;omega
   have hh:Value.ownBlock (.slice A k c)≠some w.heap.size:=fun e=>by have:=(h4.lt _ e).1;omega
   generalize hU:(iP s k).flatMap aa.cells=U at*;clear hU;have v1:IntKind.i64.wrap (bt s j)=bt s j:=by have:=bt_nonneg s j;have:=bt_le s j;rw [IntKind.wrap_i64];omega
   have v2:IntKind.i64.wrap (bt s (j+1))=bt s (j+1):=by have:=bt_nonneg s (j+1);have:=bt_le s (j+1);rw [IntKind.wrap_i64];omega
   have G2:Hid (∀u∈(#[.int .i64 (bt s j),.int .i64 (bt s (j+1))]:Array Value).toList,u.oneCell'=true):=by simp [Hid,Value.oneCell']
   have G3:Hid (k+1≤maxLen∧(k+1)*16≤140737488355328):=by unfold maxLen Hid;omega
   have G4:Hid (0 <2):=by simp [Hid]
   have GO:Hid (af (wr.alloc (.cells #[.int .i64 (bt s j),.int .i64 (bt s (j+1))] 89)).drew (w.heap.size+2) 2 (.slice A k c) k U):=(h4.alloc _).drew;have GB:Hid (w.heap.size+2≤(wr.alloc (.cells #[.int .i64 (bt s j),.int .i64 (bt s (j+1))] 89)).drew.heap.size):=by simp [Hid];omega
   have GH:Hid ((wr.alloc (.cells #[.int .i64 (bt s j),.int .i64 (bt s (j+1))] 89)).drew.heap[wr.heap.size]?=some (.cells #[.int .i64 (bt s j),.int .i64 (bt s (j+1))] 89)):=A_ wr _;have GR:Hid ((wr.alloc (.cells #[.int .i64 (bt s j),.int .i64 (bt s (j+1))] 89)).drew.heap[w.heap.size+1]?=some (.cells #[.int .i64 (iK s),.int .i64 (iG s),.int .i64 (iS s),.slice A k c] 67)):=cq h1 _;have ht:Hid ((wr.alloc (.cells #[.int .i64 (bt s j),.int .i64 (bt s (j+1))] 89)).drew.heap[w.heap.size]?=some (.cells bf 67)):=cq h5 _;have GZ:Hid (Below w.heap.size w (wr.alloc (.cells #[.int .i64 (bt s j),.int .i64 (bt s (j+1))] 89)).drew):=(hb.alloc hb.size _).drew;have hF:=h_ h1;have h3:=h_ h5;have HB:=h_ hb;have N1:=h_ hs;have N0:=h_ hh;clear h1 h5 hs hh h4 hb;go_wp2
   go_region_law(first
    |(refine oh (P:=Tryz.prog) (e:=89) (z:=.agg #[.int .i64 0,.int .i64 0]) (size:=2) (bytes:=16) (base:=w.heap.size+2) rfl (.tmp 44) (.tmp 55) 40 rfl Tryz.underlying40 U8 rfl G4.o A k c U rfl GO.o GB.o wr.heap.size 1 #[.int .i64 (bt s j),.int .i64 (bt s (j+1))] 89 rfl GH.o rfl G2.o G3.o.1 G3.o.2 ?_;intro A' c' w2 he h9 hK;have hd:=dw GR.o h9 N1.o;have hq:=aj hd 3;have hf:=ak hd 3;simp only [sA,sB,sC]at hq))
   all_goals
    have hC:=h_ (b9 (j:=3) (v:=.slice A' (k+1) c') hd);have hJ:=h_ (cp (a:=⟨w.heap.size+1,3,none⟩) (v:=.slice A' (k+1) c') (dw ht.o h9 N0.o) (show w.heap.size≠w.heap.size+1 by omega));have hH:=h9.size;have hv:=he.setOther (p:=⟨w.heap.size+1,3,none⟩) (fun e=>by have e2:w.heap.size+2≤w.heap.size+1:=(he.lt _ e).1;omega) (.slice A' (k+1) c');have hV:Below w.heap.size w (w2.setCell ⟨w.heap.size+1,3,none⟩ (.slice A' (k+1) c')):=(h9.below (by omega) GZ.o).setCell (by simp) _;clear hq hf hd h9 he GO GB GH GR ht GZ;generalize w2.setCell ⟨w.heap.size+1,3,none⟩ (.slice A' (k+1) c')=w3 at*;go_wp2;go_roundw
    case rel=>exact⟨k+1,j+2,by omega,by omega,by omega,by go_num,A',c',hC,by simp only [Hid];rw [HX.o];exact hv⟩
    case measure=>simp [intOf];omega
  ·obtain rfl:k=N:=by omega
   have hw:=rc0 h1;have hu:=rc1 h1;have hD:=rc2 h1;have hp:=rc3 h1;have hg:Hid (k=iN s):=hA.o;have hQ:wrap64 ((j:Int)+1)=(j:Int)+1:=by unfold wrap64;omega
   have hR:(s.size:Int)≤(j:Int)+1:=by omega
   have hx:Below w.heap.size w wr:=hb;have hI:Hid (@du= @du):=rfl;have H:=h_ (o0w (iK s) (iG s) (iS s) A k c (iP s k) wr hn.o.1 hn.o.2 (h4.rows C6 (by omega)));have hB:Hid ((#[.int .i64 (iK s),.int .i64 (iG s),.int .i64 (iS s),.slice A k c]:Array Value).all (·.oneCell')=true):=by simp [Hid,Value.oneCell']
   have hm:Hid ((bf:Array Value).all (·.oneCell')=true):=by simp [Hid,Value.oneCell']
   have hy:=h_ h4;have h6:=h_ h5;have h8:=h_ hb;have ha:=o0z s k;clear h4 h5 h1 hb hx;by_cases hE:ez (iK s) (iG s) (iS s) (iP s k)=0
   ·have hS:sy (iK s) (iG s) (iS s) (iP s k)=btL s (7+2*k):=by unfold sy;rw [if_pos hE,ha]
    rw [hE,hS]at H;by_cases h2:s.size%2=1
    ·have F:=h_ (zn (s:=s) ⟨by omega,h2,by rw [←hg.o];exact hE⟩);have hr:strOfNums (btL s (7+2*k))=s:=by rw [show 7+2*k=s.size by omega];exact Bj s
     rw [hr]at H;clear hE hS hr ha
     go_wp2_with(first
     |(go_at_call 99;refine H.o.mono ?_;rintro e w1 ⟨rfl,h0⟩;have HB:=h_ (h8.o.trans (h0.mono h8.o.size));have HO:=h_ (hy.o.fresh_below h0);have h3:=h_ (ah h6.o (ag h6.o) h0);have k0:=(h0.cell (p:=⟨w.heap.size+1,0,none⟩) hc).trans hw;have k1:=(h0.cell (p:=⟨w.heap.size+1,1,none⟩) hc).trans hu;have k2:=(h0.cell (p:=⟨w.heap.size+1,2,none⟩) hc).trans hD;have k3:=(h0.cell (p:=⟨w.heap.size+1,3,none⟩) hc).trans hp)
     |(refine wpList_store_rowTo rfl _ _ _ rfl rfl w.heap.size #[.int .i64 (iK s),.int .i64 (iG s),.int .i64 (iS s),.slice A k c] rfl rfl 67 bf h3.o du rfl hB.o ?_))
     refine bodyPost_ret (cv rfl _ _ w.heap.size _ #[.int .i64 (iK s),.int .i64 (iG s),.int .i64 (iS s),.slice A k c] (0,0) _ rfl (bh h3.o) Tryz.underlying67 rfl du) rfl ?_;exact⟨A,k,c,by rw [F.o.1,F.o.2.1,F.o.2.2.1,F.o.2.2.2.1];rfl,by rw [F.o.2.2.2.2,←hg.o];exact(HO.o.setRow (by omega) _).rows C6 (by omega),below_setRow HB.o ler _,fun a h=>by subst h;have:=(HO.o.lt a.block rfl).1;omega⟩
    ·have F:=h_ (rh (s:=s) (fun h=>h2 h.2.1));have hz:((strOfNums (btL s (7+2*k))).toList==s.toList)=false:=me (fun e=>by have:=congrArg ByteArray.size e;rw [strOfNums_size,Ed]at this;omega);generalize strOfNums (btL s (7+2*k))=tt at*;clear hE hS ha
     go_wp2_with(first
     |(go_at_call 99;refine H.o.mono ?_;rintro e w1 ⟨rfl,h0⟩;have HB:=h_ (h8.o.trans (h0.mono h8.o.size));have h3:=h_ (ah h6.o (ag h6.o) h0))
     |(refine wpList_store_rowTo rfl _ _ _ rfl rfl w.heap.size bf rfl rfl 67 bf h3.o du rfl hm.o ?_))
     refine bodyPost_ret (cv rfl _ _ w.heap.size _ bf (0,0) _ rfl (bh h3.o) Tryz.underlying67 rfl du) rfl ?_;exact⟨none,0,0,by rw [F.o.1,F.o.2.1,F.o.2.2.1,F.o.2.2.2.1];rfl,by rw [F.o.2.2.2.2];exact us _ _,below_setRow HB.o ler _,fun a h=>by cases h⟩
   ·have F:=h_ (rh (s:=s) (fun h=>hE (by rw [hg.o];exact h.2.2)));have hz:(ez (iK s) (iG s) (iS s) (iP s k)!=0)=true:=bN hE;generalize ez (iK s) (iG s) (iS s) (iP s k)=ee at*;generalize strOfNums (sy (iK s) (iG s) (iS s) (iP s k))=tt at*;clear hE ha
    go_wp2_with(first
     |(go_at_call 99;refine H.o.mono ?_;rintro e w1 ⟨rfl,h0⟩;have HB:=h_ (h8.o.trans (h0.mono h8.o.size));have h3:=h_ (ah h6.o (ag h6.o) h0))
     |(refine wpList_store_rowTo rfl _ _ _ rfl rfl w.heap.size bf rfl rfl 67 bf h3.o du rfl hm.o ?_))
    refine bodyPost_ret (cv rfl _ _ w.heap.size _ bf (0,0) _ rfl (bh h3.o) Tryz.underlying67 rfl du) rfl ?_;exact⟨none,0,0,by rw [F.o.1,F.o.2.1,F.o.2.2.1,F.o.2.2.2.1];rfl,by rw [F.o.2.2.2.2];exact us _ _,below_setRow HB.o ler _,fun a h=>by cases h⟩
theorem o0u(s:ByteArray)(w:World)(hs:s.size≤1048575):Calls Tryz.prog 89 #[.string s] w fun e w'=>∃A n c,e= .returned (.tuple #[.agg #[.int .i64 (irK s),.int .i64 (irG s),.int .i64 (irS s),.slice A n c],.int .i64 (irE s)])∧ab w' w'.heap.size A n c aa.cells 2 (irP s)∧Below w.heap.size w w'∧(∀a,A=some a→w.heap.size≤a.block):=by
 by_cases h7:s.size <7
 ·exact o0s s w h7
 ·rcases Nat.mod_two_eq_zero_or_one s.size with h|h
  ·exact o0v s w h7 h
  ·exact o0t s w hs h7 h
theorem o0r(s:ByteArray)(w:World)(hs:s.size≤1048575):Calls Tryz.prog 70 #[.string s] w fun e w'=>∃A n c,e= .returned (.tuple #[.agg #[.int .i64 (irK s),.int .i64 (irG s),.int .i64 (irS s),.slice A n c],.int .i64 (irE s)])∧ab w' w'.heap.size A n c aa.cells 2 (irP s)∧Below w.heap.size w w'∧(∀a,A=some a→w.heap.size≤a.block):=by
 by_cases h7:s.size <7
 ·exact o0p s w h7
 ·exact o0q s w hs h7
end
section
theorem c0h{P:Program}{ops:Array Oper}{o:Oper}{a:Act}{w:World}{K:Act→World→Prop}{Q:Exit→Act→World→Prop}{E:Prop}(hg:o.guard=none)(f:FuncId)(args:Array Value)(v:Value){R:World→Prop}(hrun:(execOp a.eval o).run P w= .ok (.enter f args) w)(hc:Calls P f args w fun e w'=>e= .returned v∧R w')(hK:∀w',R w'→K (a.put o.dst v) w'):if Region.wanted o (yielded ops a.tmps)=true then Oper.wp P o a w K Q else E:=by
 have hw:Region.wanted o (yielded ops a.tmps)=true:=by simp [Region.wanted,hg]
 rw [if_pos hw];unfold Oper.wp;rw [hrun,Oper.upon_enter];exact hc.mono (fun e w' h=>by obtain⟨he,hr⟩:=h;subst he;exact hK w' hr)
theorem c0g{P:Program}{ops:Array Oper}{o:Oper}{a:Act}{w:World}{K:Act→World→Prop}{Q:Exit→Act→World→Prop}{E:Prop}{β:Type}(hg:o.guard=none)(f:FuncId)(args:Array Value)(v:β→Value){R:β→World→Prop}(hrun:(execOp a.eval o).run P w= .ok (.enter f args) w)(hc:Calls P f args w fun e w'=>∃b,e= .returned (v b)∧R b w')(hK:∀b w',R b w'→K (a.put o.dst (v b)) w'):if Region.wanted o (yielded ops a.tmps)=true then Oper.wp P o a w K Q else E:=by
 have hw:Region.wanted o (yielded ops a.tmps)=true:=by simp [Region.wanted,hg]
 rw [if_pos hw];unfold Oper.wp;rw [hrun,Oper.upon_enter];exact hc.mono (fun e w' h=>by obtain⟨b,he,hr⟩:=h;subst he;exact hK b w' hr)
theorem eh{P:Program}{ops:Array Oper}{o:Oper}{a:Act}{w:World}{K:Act→World→Prop}{Q:Exit→Act→World→Prop}{E:Prop}{β:Type}(hg:o.guard=none)(f:FuncId){xs:Array Operand}{ts:Array TypeId}(_ho:o.op= .call {callee:=.value (.func f),args:=xs,argTypes:=ts})(args:Array Value)(v:β→Value){R:β→World→Prop}(hrun:(execOp a.eval o).run P w= .ok (.enter f args) w)(hc:Calls P f args w fun e w'=>∃b,e= .returned (v b)∧R b w')(hK:∀b w',R b w'→K (a.put o.dst (v b)) w'):
 if Region.wanted o (yielded ops a.tmps)=true then Oper.wp P o a w K Q else E:=c0g hg f args v hrun hc hK
end
section
open Go.RowKit
theorem uw{P:Program}{fn:Func}{p u z:Tmp}{ty:TypeId}(h:fn.results= #[.cell p ty,.tmp u,.tmp z])(tmps:Array Value)(w:World)(g:Nat)(t:TypeId)(cs:Array Value)(fr:Nat×Nat)(d:TypeDesc)(hp:tmps.getD p undef= .pointer (some ⟨g,0,none⟩))(hg:w.heap[g]?=some (.cells cs t fr))(hu:P.underlying ty=some d)(hd:(match d with| .struct _| .array _ _=>true|_=>false)=true)(hi:(P.info? ty).map (·.size)=some cs.size):(results fn tmps).run P w= .ok (.tuple #[.agg cs,tmps.getD u undef,tmps.getD z undef]) w:=by
 have h0:tmps[p]?.getD undef= .pointer (some ⟨g,0,none⟩):=by simpa using hp
 simp [results,h,h0,asAddr,run_loadVar_row w g t ty cs fr d hg hu hd hi]
theorem Xn{f:FuncId}{args:Array Value}{W:World}{E:Int}{b:bz}(h:Calls Tryz.prog f args W (s5 E b W)):Calls Tryz.prog f args W fun e w'=>∃_:Unit,e= .returned (.tuple #[.agg #[.int .i64 b.Kind,.int .i64 b.Ino,.int .i64 b.Nth,.string b.Text],.int .i64 E])∧Below W.heap.size W w':=
 h.mono fun _ _ ⟨h1,h2⟩=>⟨(),h1,h2⟩
def UiI(t:TypeId)(lo:Nat)(b:bz)(E:Int)(wa:World)(s9 s10:Value)(wx:World):Prop:=∃M,s9= .pointer (some ⟨M,0,none⟩)∧s10= .int .i64 E∧lo≤M∧Hid (wx.heap[M]?=some (.cells #[.int .i64 b.Kind,.int .i64 b.Ino,.int .i64 b.Nth,.string b.Text] t (0,0)))∧Hid (Below wa.heap.size wa wx)
theorem Nb{t:TypeId}{lo:Nat}{b:bz}{E:Int}{wa w2:World}(hb:Below wa.drew.heap.size wa.drew w2)(hlo:wa.heap.size=lo):UiI t lo b E wa (.pointer (some ⟨w2.heap.size,0,none⟩)) (.int .i64 E) (w2.alloc (.cells #[.int .i64 b.Kind,.int .i64 b.Ino,.int .i64 b.Nth,.string b.Text] t)):=
 have hb':Below wa.heap.size wa w2:=br.drew.trans hb
 ⟨_,rfl,rfl,by have:=hb'.size;omega,A_ w2 _,hb'.alloc hb'.size _⟩
theorem Na{t:TypeId}{lo:Nat}{b:bz}{E:Int}{wa w2:World}{o:Obj}(hM:w2.heap[wa.heap.size]?=some (.cells dm t (0,0)))(hb:Below (wa.alloc o).drew.heap.size (wa.alloc o).drew w2)(hlo:wa.heap.size=lo):UiI t lo b E wa (.pointer (some ⟨wa.heap.size,0,none⟩)) (.int .i64 E) ((((w2.setCell ⟨wa.heap.size,0,none⟩ (.int .i64 b.Kind)).setCell ⟨wa.heap.size,1,none⟩ (.int .i64 b.Ino)).setCell ⟨wa.heap.size,2,none⟩ (.int .i64 b.Nth)).setCell ⟨wa.heap.size,3,none⟩ (.string b.Text)):=
 have h1:Below wa.heap.size wa (wa.alloc o).drew:=(br.alloc ler _).drew
 have hb':Below wa.heap.size wa w2:=h1.trans (hb.mono h1.size)
 have m:=b9 (j:=3) (v:=.string b.Text) (b9 (j:=2) (v:=.int .i64 b.Nth) (b9 (j:=1) (v:=.int .i64 b.Ino) (b9 (j:=0) (v:=.int .i64 b.Kind) hM)))
 ⟨_,rfl,rfl,by omega,m,(((hb'.setCell ler _).setCell ler _).setCell ler _).setCell ler _⟩
theorem dj{α:Type}{enc:α→List Value}{k n c B M z:Nat}{A:Option Addr}{xs:List α}{w:World}(r:ab w B A n c enc k xs)(hM:∀b o,A=some ⟨b,o,none⟩→0 <n→b≠M)(v:Value):ab (w.setCell ⟨M,z,none⟩ v) B A n c enc k xs:=
 ⟨r.len,r.le,r.top,fun i x hx=>by
   obtain⟨b,o,e,hb,hc⟩:=r.at_ i x hx
   have h0:0 <n:=by have:=r.len;have:=(gS.1 hx).1;omega
   exact⟨b,o,e,hb,fun j u hu=>(World.cell?_setCell_other _ _ _ _ (fun e2=>hM b o e h0 (by injection e2 with e2;exact e2.symm))).trans (hc j u hu)⟩⟩
theorem L9{B:Nat}{w0 W:World}(h:Below B w0 W):∀m:Nat,Below B w0 (W.drewN m)
 |_=>h.trans ⟨rfl,rfl,rfl,Nat.le_refl _,fun _ _=>rfl⟩
def Z6(cs:List ByteArray)(ws:List ae)(k:Nat)(p:aa)(g:Int)(w:World)(e:Ending)(w':World):Prop:=
 (fw cs ws k p g∧∃(K G S:Int) (D:Option Addr) (q d:Nat),e= .returned (.tuple #[.agg #[.int .i64 K,.int .i64 G,.int .i64 S,.slice D q d],.string (ubB cs ws p.Cell p.Nth).Text,.int .i64 0])∧ab w' w'.heap.size D q d aa.cells 2 (pts cs ws p)∧Below w.heap.size w w'∧(∀a,D=some a→w.heap.size≤a.block))∨
 (¬fw cs ws k p g∧e= .returned (.tuple #[.agg bf,.string ⟨#[]⟩,.int .i64 18])∧Below w.heap.size w w')
def xw(cs:List ByteArray)(ws:List ae)(k:Nat)(p:aa)(g:Int)(w:World)(e:Ending)(w':World):Prop:=
 (fw cs ws k p g∧∃(D:Option Addr) (q d:Nat),e= .returned (.tuple #[.agg #[.int .i64 (irK (ubB cs ws p.Cell p.Nth).Text),.int .i64 (irG (ubB cs ws p.Cell p.Nth).Text),.int .i64 (irS (ubB cs ws p.Cell p.Nth).Text),.slice D q d],.string (ubB cs ws p.Cell p.Nth).Text,.int .i64 0])∧ab w' w'.heap.size D q d aa.cells 2 (pts cs ws p)∧Below w.heap.size w w'∧(∀a,D=some a→w.heap.size≤a.block))∨
 (¬fw cs ws k p g∧e= .returned (.tuple #[.agg bf,.string ⟨#[]⟩,.int .i64 18])∧Below w.heap.size w w')
theorem xw.weak{cs:List ByteArray}{ws:List ae}{k:Nat}{p:aa}{g:Int}{w:World}{e:Ending}{w':World}(h:xw cs ws k p g w e w'):Z6 cs ws k p g w e w':=by
 rcases h with⟨h1,D,q,d,h2⟩|h
 ·exact .inl ⟨h1,_,_,_,D,q,d,h2⟩
 ·exact .inr h
theorem vk(w:World)(o1 o2 o3:Obj):(((w.alloc o1).alloc o2).alloc o3).heap.size=w.heap.size+3∧Below w.heap.size w (((w.alloc o1).alloc o2).alloc o3):=
 ⟨by simp,((br.alloc ler _).alloc (by simp) _).alloc (by simp;omega) _⟩
def IdQ(ok:Prop)(cs:List ByteArray)(ws:List ae)(p:aa)(w w':World)(K S:Int)(D:Option Addr)(q d:Nat)(E:Int):Prop:=
 Below w.heap.size w w'∧(∀a,D=some a→w.heap.size≤a.block)∧((ok∧E=0∧K=ndK cs ws p∧S=ndS cs ws p∧ab w' w'.heap.size D q d aa.cells 2 (pts cs ws p))∨(¬ok∧E=18∧K=0∧S=0∧D=none∧q=0∧d=0))
def InZ(z:Int×Int×Int×Option Addr×Nat×Nat×ByteArray×Int):Value:=.tuple #[.agg #[.int .i64 z.1,.int .i64 z.2.1,.int .i64 z.2.2.1,.slice z.2.2.2.1 z.2.2.2.2.1 z.2.2.2.2.2.1],.string z.2.2.2.2.2.2.1,.int .i64 z.2.2.2.2.2.2.2]
section
variable {ok:Prop} {cs:List ByteArray} {ws:List ae} {k:Nat} {p:aa} {g:Int} {w w' w2:World} {K G S E:Int} {D:Option Addr} {q d:Nat}
theorem p0c{f:FuncId}{args:Array Value}(h:Calls Tryz.prog f args w (xw cs ws k p g w)):Calls Tryz.prog f args w fun e w'=>∃z:Int×Int×Int×Option Addr×Nat×Nat×ByteArray×Int,e= .returned (.tuple #[.agg #[.int .i64 z.1,.int .i64 z.2.1,.int .i64 z.2.2.1,.slice z.2.2.2.1 z.2.2.2.2.1 z.2.2.2.2.2.1],.string z.2.2.2.2.2.2.1,.int .i64 z.2.2.2.2.2.2.2])∧IdQ (fw cs ws k p g) cs ws p w w' z.1 z.2.2.1 z.2.2.2.1 z.2.2.2.2.1 z.2.2.2.2.2.1 z.2.2.2.2.2.2.2:=
 h.mono fun e w' h=>by
  rcases h with⟨h1,D,q,d,rfl,h2,h3,h4⟩|⟨h1,rfl,h2⟩
  ·exact⟨(_,_,_,D,q,d,_,0),rfl,h3,h4,.inl ⟨h1,rfl,rfl,rfl,h2⟩⟩
  ·exact⟨(0,0,0,none,0,0,⟨#[]⟩,18),rfl,h2,(fun a ha=>by cases ha),.inr ⟨h1,rfl,rfl,rfl,rfl,rfl,rfl⟩⟩
theorem IdQ.more(h:IdQ ok cs ws p w w' K S D q d E)(hb:Below w'.heap.size w' w2):IdQ ok cs ws p w w2 K S D q d E:=by
 obtain⟨h1,h2,h3⟩:=h;refine⟨h1.trans (hb.mono h1.size),h2,?_⟩;rcases h3 with⟨a,b,c,e,f⟩|h3
 ·exact .inl ⟨a,b,c,e,(f.below hb).more hb.size⟩
 ·exact .inr h3
theorem IdQ.early{w0:World}(hb:Below w0.heap.size w0 w)(h:IdQ ok cs ws p w w' K S D q d E):IdQ ok cs ws p w0 w' K S D q d E:=
 ⟨hb.trans (h.1.mono hb.size),fun a ha=>Nat.le_trans hb.size (h.2.1 a ha),h.2.2⟩
def IdI(t:TypeId)(ok:Prop)(cs:List ByteArray)(ws:List ae)(p:aa)(w:World)(s s':Value)(wx:World):Prop:=
 ∃(K G S:Int) (D:Option Addr) (q d:Nat) (E:Int) (M:Nat),s= .pointer (some ⟨M,0,none⟩)∧s'= .int .i64 E∧w.heap.size≤M∧Hid (wx.heap[M]?=some (.cells #[.int .i64 K,.int .i64 G,.int .i64 S,.slice D q d] t (0,0)))∧Hid (IdQ ok cs ws p w wx K S D q d E)
theorem p0s{t:TypeId}(h:IdQ ok cs ws p w w2 K S D q d E):IdI t ok cs ws p w (.pointer (some ⟨w2.heap.size,0,none⟩)) (.int .i64 E) (w2.alloc (.cells #[.int .i64 K,.int .i64 G,.int .i64 S,.slice D q d] t)):=
 ⟨K,G,S,D,q,d,E,_,rfl,rfl,h.1.size,A_ w2 _,h.more (br.alloc ler _)⟩
theorem Uk{t:TypeId}{o:Obj}{Z:Array Value}(hz:Z.size=4)(hM:w2.heap[w.heap.size]?=some (.cells Z t (0,0)))(h:IdQ ok cs ws p (w.alloc o).drew w2 K S D q d E):IdI t ok cs ws p w (.pointer (some ⟨w.heap.size,0,none⟩)) (.int .i64 E) ((((w2.setCell ⟨w.heap.size,0,none⟩ (.int .i64 K)).setCell ⟨w.heap.size,1,none⟩ (.int .i64 G)).setCell ⟨w.heap.size,2,none⟩ (.int .i64 S)).setCell ⟨w.heap.size,3,none⟩ (.slice D q d)):=by
 obtain⟨z0,z1,z2,z3,rfl⟩:∃z0 z1 z2 z3,Z= #[z0,z1,z2,z3]:=by
  match Z,hz with
  |⟨[a,b,c,e]⟩,_=>exact⟨a,b,c,e,rfl⟩
 have m:=b9 (j:=3) (v:=.slice D q d) (b9 (j:=2) (v:=.int .i64 S) (b9 (j:=1) (v:=.int .i64 G) (b9 (j:=0) (v:=.int .i64 K) hM)));have h1:Below w.heap.size w (w.alloc o).drew:=(br.alloc ler _).drew;have h2:(w.alloc o).drew.heap.size=w.heap.size+1:=by simp
 obtain⟨b1,b2,b3⟩:=h;have b4:Below w.heap.size w w2:=h1.trans (b1.mono h1.size);refine⟨K,G,S,D,q,d,E,_,rfl,rfl,Nat.le_refl _,m,(((b4.setCell ler _).setCell ler _).setCell ler _).setCell ler _,fun a ha=>by have:=b2 a ha;omega,?_⟩;rcases b3 with⟨e1,e2,e3,e4,e5⟩|b3
 ·have h0:∀b o,D=some ⟨b,o,none⟩→0 <q→b≠w.heap.size:=fun b o e _ e2=>by have h1:=b2 _ e;simp only at h1;omega
  exact .inl ⟨e1,e2,e3,e4,(dj (z:=3) (dj (z:=2) (dj (z:=1) (dj (z:=0) e5 h0 _) h0 _) h0 _) h0 _).more (by simp [World.setCell])⟩
 ·exact .inr b3
end
end
end Go.Proofs.YtcldpfhpkbeaiadGreat
