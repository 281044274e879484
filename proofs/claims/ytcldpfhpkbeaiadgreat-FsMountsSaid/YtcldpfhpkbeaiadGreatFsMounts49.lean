/- A part of the proof of FsMounts. No condition of ours. -/
import Derived.Test.YtcldpfhpkbeaiadGreatFsMounts44
set_option maxRecDepth 200000
set_option maxHeartbeats 4000000
namespace Go.Proofs.YtcldpfhpkbeaiadGreat
section
open Go.RowKit Go.PlainAid
def Nz:Value→Nat
 | .string t=>t.size
 |_=>0
def F0(s:ByteArray)(w:World)(e:Ending)(w':World):Prop:=∃A n c,e= .returned (.tuple #[.slice A n c,.bool (brB s),.int .i64 (brE s)])∧ab w' w'.heap.size A n c bz.cells 4 (brL s)∧Below w.heap.size w w'∧(∀a,A=some a→w.heap.size≤a.block)
theorem qj{s:ByteArray}{w w':World}(h:¬fd s)(hb:Below w.heap.size w w'):F0 s w (.returned (.tuple #[.slice none 0 0,.bool false,.int .i64 4])) w':=by obtain⟨a,b,c⟩:=Ks h;exact⟨none,0,0,by rw [a,c],by rw [b];exact Sk _ _,hb,fun _ h=>by cases h⟩
theorem j0g{w:World}{base size n m c:Nat}{A:Option Addr}{xs:List Value}(h:af w base size (.slice A m c) n xs):∀a,A=some a→base≤a.block:=fun a e=>(h.lt a.block (by rw [e];rfl)).1
theorem u0x(s:ByteArray)(w:World):Calls Tryz.prog 98 #[.string s] w (F0 s w):=by
 have hK:=get_bt s;by_cases h0:2≤s.size∧s.size≤1000
 ·obtain⟨lo,hi⟩:=h0;have hH:=h_ lo;have q0:0 <s.size:=by omega
  go_enter Tryz.func98,Tryz.ntmps98;go_wp2;go_loopw [5,6] (fun v5 v6 wr=>∃j p:Nat,p≤s.size∧BrJ s j p∧v6= .string (tl s p)∧af wr w.heap.size 4 v5 j ((cy s j).flatMap bz.cells)∧Below w.heap.size w wr) (fun _ v6 _=>Nz v6)
  case atStart=>exact⟨0,2,lo,BrJ.start s,rfl,af.nil _ _ _,br⟩
  case round=>
   obtain⟨j,p,hp,hI,rfl,ha,hb⟩:=hrel;obtain⟨A,c,rfl⟩:=ha.form;have h9:=hb.size;have hJ:=hI.lt;have hv:=lx s p;have hz:(tl s p).size≤s.size-p:=by omega
   have hG:s.size-p≤(tl s p).size:=by omega
   have ht:=h_ (ug s p 3);have hs:=h_ (fun q=>ug s p q);have HB:Hid (∀i,i <s.size-p→bt (tl s p) i=bt s (p+i)):=fun i hi=>l9 s p s.size i (by omega) ler
   have HC:Hid (∀x y,x≤y→p+y≤s.size→(tl s p).extract x y=s.extract (p+x) (p+y)):=fun x y h1 h2=>by unfold tl;rw [ByteArray.extract_extract,show min (p+y) s.size=p+y by omega]
   by_cases hlt:p <s.size
   ·have hc:=h_ (hI.not hlt);have e1:=Ds (t:=tl s p) (by omega);have e2:=ls (t:=tl s p) (by omega);have he:=get_bt (tl s p)
    have e3:(tl s p).toList.isEmpty=false:=by
     have h:=e1;cases hl:(tl s p).toList with
     |nil=>rw [hl]at h;simp at h
     |cons a b=>rfl
    generalize hT:tl s p=T at*;have hL:=h_ hT;clear hT hv;by_cases h3:T.size <4
    ·have F:=h_ (hc.o fun k=>by have:=k.1.four;omega);go_wp2;go_ret3;exact qj F.o hb
    ·have H:Hid (∀W,Calls Tryz.prog 100 #[.string (T.extract 3 T.size)] W fun e w'=>e= .returned (.tuple #[.int .u64 (c9 (bt (tl s (p+3))) (tl s (p+3)).size),.int .i64 (ck (bt (tl s (p+3))) (tl s (p+3)).size),.int .i64 (eE s p)])∧W=w'):=fun W=>by rw [ht.o];exact ru _ W (by rw [lx];omega)
     have hy:p+4≤s.size:=by omega
     by_cases hE:eE s p=0
     ·obtain⟨a1,a2,a3,a4,a5,_⟩:=Dp hy hE;rw [a1,a2,hE]at H;have HE:=h_ hE;clear a1 a2 hE;have HX:=h_ hI.ents;have HS:=h_ (fun a=>hI.step (p:=p) a);have hg:p+3+eK s p+eN s p≤s.size→jb s p:=fun h=>⟨hy,HE.o,h⟩
      have hm:¬p+3+eK s p+eN s p≤s.size→¬jb s p:=fun h k=>h k.fits
      have hj:jb s p→600 <eN s p→¬(jb s p∧ny s p=0):=fun a b=>Vr a b
      generalize eK s p=K at*;generalize eN s p=N at*;by_cases h6:600 <N
      ·have F:=h_ (show ¬fd s from hc.o fun k=>hj k.1 h6 k);have g1:(600:Int) < (N:Int):=by omega
       clear hj hg hm HS HX;go_wp2_with(go_at_call 100;refine(H.o _).mono ?_;rintro e w' ⟨rfl,rfl⟩);go_ret3;exact qj F.o hb
      ·have g1:(N:Int)≤600:=by omega
       have g2:(K:Int)≤10:=by omega
       by_cases hf:p+3+K+N≤s.size
       ·have hD:=hg hf;have HN:=h_ (HS.o hD);have g3:(3:Int)+(K:Int)+(N:Int)≤(T.size:Int):=by omega
        have hq:=HC.o (3+K) (3+K+N) (by omega) (by omega);rw [show p+(3+K)=p+3+K by omega,show p+(3+K+N)=p+3+K+N by omega]at hq;have hn:=hs.o (3+K+N);rw [show p+(3+K+N)=p+3+K+N by omega]at hn;have HR:=h_ hn;generalize hTX:s.extract (p+3+K) (p+3+K+N)=TX at*;have y1:=bt_nonneg s p;have y2:=bt_le s p;have y3:=bt_nonneg s (p+1);have y4:=bt_le s (p+1);have y5:=bt_nonneg s (p+2);have y6:=bt_le s (p+2)
        have HF:Hid ((IntKind.i64.wrap ((3:Int)+(K:Int))=(3:Int)+(K:Int)∧IntKind.i64.wrap ((3:Int)+(K:Int)+(N:Int))=(3:Int)+(K:Int)+(N:Int))∧(IntKind.i64.wrap (bt s p)=bt s p∧IntKind.i64.wrap (bt s (p+1))=bt s (p+1)∧IntKind.i64.wrap (bt s (p+2))=bt s (p+2)∧IntKind.i64.wrap (N:Int)=(N:Int))):=by simp only [Hid,IntKind.wrap_i64];omega
        clear y1 y2 y3 y4 y5 y6
        have hcut:Hid (∀W:World,(Instr.sliceAt 9 (.string T) (some (.int .i64 ((3:Int)+(K:Int)))) (some (.int .i64 ((3:Int)+(K:Int)+(N:Int)))) none).run Tryz.prog W= .ok (.string TX) W):=by have:=yp (P:=Tryz.prog) Tryz.underlying9 T (3+K) (3+K+N) (by omega) (by omega);rw [hq]at this;simp only [Int.natCast_add,Int.cast_ofNat_Int]at this;exact this
        have hA:Hid ((∀W:World,(Instr.index 9 (.string T) (.int .i64 0)).run Tryz.prog W= .ok (.int .u8 (bt s p)) W)∧(∀W:World,(Instr.index 9 (.string T) (.int .i64 1)).run Tryz.prog W= .ok (.int .u8 (bt s (p+1))) W)∧(∀W:World,(Instr.index 9 (.string T) (.int .i64 2)).run Tryz.prog W= .ok (.int .u8 (bt s (p+2))) W)):=
         ⟨lf Tryz.underlying9 T _ 0 _ rfl (by omega) ((he 0 (by omega)).trans (HB.o 0 (by omega))),lf Tryz.underlying9 T _ 1 _ rfl (by omega) ((he 1 (by omega)).trans (HB.o 1 (by omega))),lf Tryz.underlying9 T _ 2 _ rfl (by omega) ((he 2 (by omega)).trans (HB.o 2 (by omega)))⟩
        have G2:Hid (∀u∈(#[.int .i64 (bt s p),.int .i64 (bt s (p+1)),.int .i64 (bt s (p+2)),.string TX]:Array Value).toList,u.oneCell'=true):=by simp [Hid,Value.oneCell']
        have G3:Hid (j+1≤maxLen∧(j+1)*40≤140737488355328):=by unfold maxLen Hid;omega
        have G4:Hid (0 <4):=by simp [Hid]
        have GO:Hid (af (wr.alloc (.cells #[.int .i64 (bt s p),.int .i64 (bt s (p+1)),.int .i64 (bt s (p+2)),.string TX] 85)).drew w.heap.size 4 (.slice A j c) j ((cy s j).flatMap bz.cells)):=(ha.alloc _).drew;have GB:Hid (w.heap.size≤(wr.alloc (.cells #[.int .i64 (bt s p),.int .i64 (bt s (p+1)),.int .i64 (bt s (p+2)),.string TX] 85)).drew.heap.size):=by simp [Hid];omega
        have GH:Hid ((wr.alloc (.cells #[.int .i64 (bt s p),.int .i64 (bt s (p+1)),.int .i64 (bt s (p+2)),.string TX] 85)).drew.heap[wr.heap.size]?=some (.cells #[.int .i64 (bt s p),.int .i64 (bt s (p+1)),.int .i64 (bt s (p+2)),.string TX] 85)):=A_ wr _;have GZ:Hid (Below w.heap.size w (wr.alloc (.cells #[.int .i64 (bt s p),.int .i64 (bt s (p+1)),.int .i64 (bt s (p+2)),.string TX] 85)).drew):=(hb.alloc h9 _).drew;generalize hU:(cy s j).flatMap bz.cells=U at*;clear hU hq hn hTX hj hg hm HS ha hb he HB HC hs ht;go_wp2_with(go_at_call 100;refine(H.o _).mono ?_;rintro e w' ⟨rfl,rfl⟩);have hcut:=hcut.o;obtain⟨⟨f1,f2⟩,⟨f3,f4,f5,f6⟩⟩:=HF.o;obtain⟨x1,x2,x3⟩:=hA.o
        go_region_law(first
         |(refine oh (P:=Tryz.prog) (e:=85) (z:=.agg #[.int .i64 0,.int .i64 0,.int .i64 0,.string ByteArray.empty]) (size:=4) (bytes:=40) (base:=w.heap.size) rfl (.tmp 50) (.tmp 70) 56 rfl Tryz.underlying56 Ja rfl G4.o A j c U rfl GO.o GB.o wr.heap.size 1 #[.int .i64 (bt s p),.int .i64 (bt s (p+1)),.int .i64 (bt s (p+2)),.string TX] 85 rfl GH.o rfl G2.o G3.o.1 G3.o.2 ?_;intro A' c' w2 hu hw hB))
        all_goals
         have hF:=h_ hu;have hC:=h_ (hw.below ler GZ.o);clear f1 f2 f3 f4 f5 f6 x1 x2 x3 hcut hu hw hB;go_wp2;go_roundw
         case rel=>exact⟨j+1,p+3+K+N,hf,HN.o,congrArg Value.string HR.o,by rw [HX.o];exact hF.o,hC.o⟩
         case measure=>(simp [Nz];try omega)
       ·have F:=h_ (show ¬fd s from hc.o fun k=>hm hf k.1);have g3:(T.size:Int) < (3:Int)+(K:Int)+(N:Int):=by omega
        clear hj hg hm HS HX;go_wp2_with(go_at_call 100;refine(H.o _).mono ?_;rintro e w' ⟨rfl,rfl⟩);go_ret3;exact qj F.o hb
     ·have hh:(eE s p !=0)=true:=bN hE;have F:=h_ (hc.o fun k=>hE k.1.num);clear hE;generalize c9 (bt (tl s (p+3))) (tl s (p+3)).size=V at*;generalize ck (bt (tl s (p+3))) (tl s (p+3)).size=NN at*;generalize eE s p=E at*;go_wp2_with(go_at_call 100;refine(H.o _).mono ?_;rintro e w' ⟨rfl,rfl⟩);go_ret3;exact qj F.o hb
   ·obtain rfl:p=s.size:=by omega
    have hx:tl s s.size=⟨#[]⟩:=Dr (by omega);rw [hx];clear hx HB HC hs ht hv hz hG;have i0:(0:Int) < (s.size:Int):=by omega
    have hd:=ha.rows Ky (by omega);have FR:=h_ (j0g ha);have hk:=h_ (hI.iff hH.o hi rfl);have h8:=h_ (hI.many rfl);by_cases h1:bt s 0=1
    ·have g1:(bt s 0==1)=true:=beq_iff_eq.2 h1;have H:=h_ (Xp A j c _ wr hd);have h5:=h_ (hk.o 1 (by rw [if_pos h1]));clear hk h1;by_cases hE:gj (cy s j)=0
     ·rw [hE]at H;by_cases hS:strOfNums (i9 (cy s j) 1)=s
      ·have F:=xk (h5.o.2 ⟨hE,hS⟩);rw [h8.o (h5.o.2 ⟨hE,hS⟩),g1]at F;have FF:=h_ F;have HO:=h_ hd;rw [hS]at H;clear hE hS F h5 h8;go_wp2_with(go_at_call 121;refine H.o.mono ?_;rintro e w' ⟨rfl,h4⟩;have h7:=h_ (hb.trans (h4.mono h9));have hr:=h_ ((HO.o.below h4).more h4.size));go_quiet(fail);go_wp2;go_ret3;exact⟨A,j,c,by rw [FF.o.1,FF.o.2.2];rfl,by rw [FF.o.2.1];exact hr.o.drewN _,below_drewN h7.o _,FR.o⟩
      ·have F:=h_ (show ¬fd s from fun k=>hS (h5.o.1 k).2);have hh:=me hS;generalize strOfNums (i9 (cy s j) 1)=tt at*;clear hE hS h5 h8;go_wp2_with(go_at_call 121;refine H.o.mono ?_;rintro e w' ⟨rfl,h4⟩;have h7:=h_ (hb.trans (h4.mono h9)));go_ret3;exact qj F.o h7.o
     ·have F:=h_ (show ¬fd s from fun k=>hE (h5.o.1 k).1);have hh:(gj (cy s j)!=0)=true:=bN hE;generalize strOfNums (i9 (cy s j) 1)=tt at*;generalize gj (cy s j)=ee at*;clear hE h5 h8;go_wp2_with(go_at_call 121;refine H.o.mono ?_;rintro e w' ⟨rfl,h4⟩;have h7:=h_ (hb.trans (h4.mono h9)));go_ret3;exact qj F.o h7.o
    ·have g1:(bt s 0==1)=false:=bF h1;have H:=h_ (Xq A j c _ wr hd);have h5:=h_ (hk.o 0 (by rw [if_neg h1]));clear hk h1;by_cases hE:gj (cy s j)=0
     ·rw [hE]at H;by_cases hS:strOfNums (i9 (cy s j) 0)=s
      ·have F:=xk (h5.o.2 ⟨hE,hS⟩);rw [h8.o (h5.o.2 ⟨hE,hS⟩),g1]at F;have FF:=h_ F;have HO:=h_ hd;rw [hS]at H;clear hE hS F h5 h8;go_wp2_with(go_at_call 121;refine H.o.mono ?_;rintro e w' ⟨rfl,h4⟩;have h7:=h_ (hb.trans (h4.mono h9));have hr:=h_ ((HO.o.below h4).more h4.size));go_quiet(fail);go_wp2;go_ret3;exact⟨A,j,c,by rw [FF.o.1,FF.o.2.2];rfl,by rw [FF.o.2.1];exact hr.o.drewN _,below_drewN h7.o _,FR.o⟩
      ·have F:=h_ (show ¬fd s from fun k=>hS (h5.o.1 k).2);have hh:=me hS;generalize strOfNums (i9 (cy s j) 0)=tt at*;clear hE hS h5 h8;go_wp2_with(go_at_call 121;refine H.o.mono ?_;rintro e w' ⟨rfl,h4⟩;have h7:=h_ (hb.trans (h4.mono h9)));go_ret3;exact qj F.o h7.o
     ·have F:=h_ (show ¬fd s from fun k=>hE (h5.o.1 k).1);have hh:(gj (cy s j)!=0)=true:=bN hE;generalize strOfNums (i9 (cy s j) 0)=tt at*;generalize gj (cy s j)=ee at*;clear hE h5 h8;go_wp2_with(go_at_call 121;refine H.o.mono ?_;rintro e w' ⟨rfl,h4⟩;have h7:=h_ (hb.trans (h4.mono h9)));go_ret3;exact qj F.o h7.o
 ·have F:=h_ (show ¬fd s from fun k=>h0 ⟨k.lo,k.hi⟩);rcases(show s.size <2∨(2≤s.size∧1000 <s.size) by omega)with h|⟨h,h'⟩
  all_goals
   go_enter Tryz.func98,Tryz.ntmps98;go_wp2;go_ret3;exact qj F.o br
end
section
open Go.RowKit
def Et(t:ByteArray)(w:World)(e:Ending)(w':World):Prop:=∃D q d,e= .returned (.tuple #[.int .i64 (scN t),.slice D q d,.bool (scB t),.bool (scO t)])∧ab w' w'.heap.size D q d bz.cells 4 (scL t)∧Below w.heap.size w w'∧(∀a,D=some a→w.heap.size≤a.block)
theorem Ou{t:ByteArray}{w w':World}(h:¬n9 t)(hb:Below w.heap.size w w'):Et t w (.returned (.tuple #[.int .i64 0,.slice none 0 0,.bool false,.bool false])) w':=by obtain⟨a,b,c,d⟩:=Ow h;exact⟨none,0,0,by rw [a,c,d],by rw [b];exact Sj _ _,hb,fun _ h=>by cases h⟩
theorem g0e(A:Option Addr)(n c:Nat)(cs:List ByteArray)(A':Option Addr)(n' c':Nat)(ws:List ae)(k:Nat)(w:World)(r:ab w w.heap.size A n c (fun z=>[.string z]) 1 cs)(r':ab w w.heap.size A' n' c' ae.cells 2 ws)(hk:k <cs.length)(hws:ws.length≤400)(hk2:2≤k):Calls Tryz.prog 66 #[.agg #[.slice A n c,.slice A' n' c'],.int .i64 k] w (Et (ar cs ws k) w):=by
 have hf:=r.len;subst hf;have hd:=r'.len;subst hd;obtain⟨wa,h5⟩:∃wa,wa=w.alloc (.cells #[.slice A cs.length c,.slice A' ws.length c'] 25):=⟨_,rfl⟩;have h4:Below w.heap.size w wa:=by rw [h5];exact br.alloc ler _
 have h6:wa.heap[w.heap.size]?=some (.cells #[.slice A cs.length c,.slice A' ws.length c'] 25 (0,0)):=by rw [h5];exact A_ w _
 have h8:=h4.size;have RA:=h_ ((r.below h4).more h8);have hj:=h_ ((r'.below h4).more h8);have HN:Hid (∀W,Below wa.heap.size wa W→Calls Tryz.prog 64 #[.agg #[.slice A cs.length c,.slice A' ws.length c'],.int .i64 k,.func (.func 65) #[] #[]] W fun e w'=>e= .returned (.string (ar cs ws k))∧Below W.heap.size W w'):=fun W h=>Kp 65 #[] ia A _ c cs A' _ c' ws k W ((RA.o.below h).more h.size) ((hj.o.below h).more h.size) hk hws (Iz _ _ _) Kn
 have HO:Hid (∀t W,Calls Tryz.prog 95 #[.string t] W fun e w'=>e= .returned (.tuple #[.int .i64 (dg t),.int .i64 (d9 t),.string (aq t),.int .i64 (ch t)])∧Below W.heap.size W w'):=fun t W=>Fz t W
 have HR:Hid (∀t W,Calls Tryz.prog 98 #[.string t] W (F0 t W)):=fun t W=>u0x t W
 unfold F0 at HR;have q0:=rc0 h6;have q1:=rc1 h6;have i1:(k:Int) < (cs.length:Int):=by omega
 have i2:¬(k:Int) <2:=by omega
 have i3:(2:Int)≤(k:Int):=by omega
 have h7:=h_ h5;have h1:=h_ h4;clear r r' h5 h4 h8 hk h6 hk2;generalize ar cs ws k=t at*;have h3:=h_ (HO.o t);have h9:=h_ (HR.o (aq t));by_cases hc:n9 t
 ·obtain⟨e1,e2,e3,e4⟩:=Gh hc;have F1:=h_ e1;have F2:=h_ e2;have F3:=h_ e3;have F4:=h_ e4;rw [hc.1,hc.2]at h3;clear hc e1 e2 e3 e4 HO HR;generalize d9 t=N at*;generalize aq t=T at*;generalize brL T=BL at*;generalize brB T=BB at*;generalize hbe:brE T=BE at*;have g1:(BE==0)=decide (BE=0):=rfl;go_enter Tryz.func66,Tryz.ntmps66
  go_wp2_with(first
   |(go_at_call 64;rw [←h7.o];refine(HN.o _ br).mono ?_;rintro e w1 ⟨rfl,h0⟩)
   |(go_at_call 95;refine(h3.o _).mono ?_;rintro e w2 ⟨rfl,h2⟩)
   |(go_at_call 98;refine(h9.o _).mono ?_;rintro e w3 ⟨D,q,d,rfl,r3,hg,hh⟩))
  refine bodyPost_ret (oq rfl _ _) rfl ?_;exact⟨D,q,d,by rw [F1.o,F3.o,F4.o];rfl,by rw [F2.o];exact r3,h1.o.trans ((h0.trans ((h2.trans (hg.mono h2.size)).mono h0.size)).mono h1.o.size),fun a h=>Nat.le_trans h1.o.size (Nat.le_trans h0.size (Nat.le_trans h2.size (hh a h)))⟩
 ·have HC:=h_ hc;by_cases he:ch t=0
  ·have ha:dg t≠1:=fun h=>hc ⟨he,h⟩
   have g1:(dg t !=1)=true:=bN ha;rw [he]at h3;clear he ha hc HO HR h9;generalize dg t=K at*;generalize d9 t=N at*;generalize aq t=T at*;go_enter Tryz.func66,Tryz.ntmps66
   go_wp2_with(first
    |(go_at_call 64;rw [←h7.o];refine(HN.o _ br).mono ?_;rintro e w1 ⟨rfl,h0⟩)
    |(go_at_call 95;refine(h3.o _).mono ?_;rintro e w2 ⟨rfl,h2⟩))
   refine bodyPost_ret (oq rfl _ _) rfl ?_;exact Ou HC.o (h1.o.trans ((h0.trans (h2.mono h0.size)).mono h1.o.size))
  ·have g1:(ch t !=0)=true:=bN he;clear he hc HO HR h9;generalize ch t=E at*;generalize dg t=K at*;generalize d9 t=N at*;generalize aq t=T at*;go_enter Tryz.func66,Tryz.ntmps66
   go_wp2_with(first
    |(go_at_call 64;rw [←h7.o];refine(HN.o _ br).mono ?_;rintro e w1 ⟨rfl,h0⟩)
    |(go_at_call 95;refine(h3.o _).mono ?_;rintro e w2 ⟨rfl,h2⟩))
   refine bodyPost_ret (oq rfl _ _) rfl ?_;exact Ou HC.o (h1.o.trans ((h0.trans (h2.mono h0.size)).mono h1.o.size))
end
section
open Go.RowKit Go.Maps
theorem g0f(A:Option Addr)(n c:Nat)(A':Option Addr)(n' c':Nat)(k:Nat)(w:World)(hk:k <2):Calls Tryz.prog 66 #[.agg #[.slice A n c,.slice A' n' c'],.int .i64 k] w fun e w'=>e= .returned (.tuple #[.int .i64 0,.slice none 0 0,.bool false,.bool false])∧Below w.heap.size w w':=by
 have i1:(k:Int) <2:=by omega
 have HB:Hid (Below w.heap.size w (w.alloc (.cells #[.slice A n c,.slice A' n' c'] 25))):=br.alloc ler _;go_enter Tryz.func66,Tryz.ntmps66;go_wp2;refine bodyPost_ret (oq rfl _ _) rfl ?_;exact⟨rfl,HB.o⟩
def fl(g:Nat→Option Int)(x:Int):List Nat→Option Nat
 | []=>none
 |j::js=>if g j=some x then some j else fl g x js
theorem V8{g:Nat→Option Int}{x:Int}{j:Nat}:∀js:List Nat,fl g x (js++[j])=(fl g x js).or (if g j=some x then some j else none)
 | []=>by simp [fl]
 |i::js=>by
  have:=V8 (g:=g) (x:=x) (j:=j) js;simp only [List.cons_append,fl];split
  ·rfl
  ·exact this
def tu(g:Nat→Option Int):List Nat→List Int→Prop
 | [],[]=>True
 |j::js,n::ns=>g j=some n∧tu g js ns
 |_,_=>False
theorem Sc{g:Nat→Option Int}:∀ {js:List Nat} {ns:List Int},tu g js ns→js.length=ns.length
 | [],[],_=>rfl
 |_::_,_::_,h=>by simp [Sc h.2]
 | [],_::_,h=>h.elim
 |_::_,[],h=>h.elim
theorem Sa{g:Nat→Option Int}{j:Nat}{n:Int}(hj:g j=some n):∀ {js:List Nat} {ns:List Int},tu g js ns→tu g (js++[j]) (ns++[n])
 | [],[],_=>⟨hj,trivial⟩
 |_::_,_::_,h=>⟨h.1,Sa hj h.2⟩
 | [],_::_,h=>h.elim
 |_::_,[],h=>h.elim
theorem Sb{g:Nat→Option Int}{x:Int}:∀ {js:List Nat} {ns:List Int},tu g js ns→fl g x js=none→x∉ns
 | [],[],_,_=>by simp
 |j::js,n::ns,h,hf=>by
  unfold fl at hf;split at hf
  ·cases hf
  ·have:=Sb h.2 hf;rw [List.mem_cons];rintro(e|e)
   ·subst e;exact absurd h.1 (by assumption)
   ·exact this e
 | [],_::_,h,_=>h.elim
 |_::_,[],h,_=>h.elim
theorem S8{g:Nat→Option Int}{x:Int}{j:Nat}:∀ {js:List Nat} {ns:List Int},tu g js ns→fl g x js=some j→∃p:Nat,js[p]?=some j∧ns[p]?=some x∧∀q,q <p→ns[q]?≠some x
 | [],[],_,hf=>by cases hf
 |i::js,n::ns,h,hf=>by
  unfold fl at hf;split at hf
  ·rename_i e;injection hf with hf;subst hf;have:n=x:=by have:=h.1.symm.trans e;injection this
   subst this;exact⟨0,rfl,rfl,fun q hq=>absurd hq (Nat.not_lt_zero q)⟩
  ·rename_i e;obtain⟨p,h1,h2,h3⟩:=S8 h.2 hf;refine⟨p+1,by simpa using h1,by simpa using h2,fun q hq=>?_⟩;cases q with
   |zero=>simp only [sC];intro hh;injection hh with hh;subst hh;exact e h.1
   |succ q=>simpa using h3 q (by omega)
 | [],_::_,h,_=>h.elim
 |_::_,[],h,_=>h.elim
theorem o0k{ns:List Int}{x i:Int}{p:Nat}(hi:Z5 ns x i)(h2:ns[p]?=some x)(h3:∀q,q <p→ns[q]?≠some x):i=(p:Int):=by
 rcases hi with⟨q,rfl,k2,k3⟩|⟨_,k⟩
 ·rcases Nat.lt_trichotomy p q with hlt|he|hgt
  ·exact absurd h2 (k3 p hlt)
  ·rw [he]
  ·exact absurd k2 (h3 q hgt)
 ·exact absurd (List.mem_of_getElem? h2) k
theorem k0e(i:Int)(A:Option Addr)(n c:Nat)(b:Bool):∀u∈(#[.int .i64 i,.slice A n c,.bool b]:Array Value).toList,u.oneCell'=true:=by simp [Value.oneCell']
def Far(W:World)(g:Option Nat)(v:EnV):Prop:=v.n=0∨∃b o,v.A=some ⟨b,o,none⟩∧b <W.heap.size∧some b≠g
theorem Far.size{W W':World}{g:Option Nat}{v:EnV}(h:Far W g v)(hs:W.heap.size≤W'.heap.size):Far W' g v:=by
 rcases h with h|⟨b,o,h1,h2,h3⟩
 ·exact .inl h
 ·exact .inr ⟨b,o,h1,by omega,h3⟩
theorem Far.grow{W W':World}{g g':Option Nat}{v:EnV}(h:Far W g v)(hs:W.heap.size≤W'.heap.size)(hg:g'=g∨∀k,g'=some k→W.heap.size≤k):Far W' g' v:=by
 rcases h with h|⟨b,o,h1,h2,h3⟩
 ·exact .inl h
 ·refine .inr ⟨b,o,h1,by omega,?_⟩;rcases hg with rfl|hg
  ·exact h3
  ·intro e;have:=hg b e.symm;omega
theorem Far.new{W W':World}{g:Option Nat}{v:EnV}{α:Type}{enc:α→List Value}{k:Nat}{xs:List α}(hr:ab W' W'.heap.size v.A v.n v.c enc k xs)(hf:∀a,v.A=some a→W.heap.size≤a.block)(hg:∀b,g=some b→b <W.heap.size):Far W' g v:=by
 cases xs with
 |nil=>exact .inl hr.len.symm
 |cons x xs=>obtain⟨b,o,h1,h2,_⟩:=hr.at_ 0 x rfl;refine .inr ⟨b,o,h1,h2,fun e=>?_⟩;have q1:=hf _ h1;have q2:=hg b e.symm;simp only at q1;omega
theorem ku.left{cs:List ByteArray}{ws:List ae}{W W':World}{j base:Nat}{g:Option Nat}{v:EnV}(h:ku cs ws W W.heap.size j v)(hf:Far W g v)(hl:ed W W' base g):ku cs ws W' W'.heap.size j v:=by
 refine⟨h.at_,h.last,?_⟩;refine⟨h.rows.len,h.rows.le,h.rows.top,fun i x hx=>?_⟩;obtain⟨b,o,e,hb,hc⟩:=h.rows.at_ i x hx;refine⟨b,o,e,Nat.lt_of_lt_of_le hb hl.size,fun k u hu=>hl.cell (hc k u hu) ?_⟩;rcases hf with hf|⟨b2,o2,h1,h2,h3⟩
 ·have:=(gS.1 hx).1;rw [h.rows.len,hf]at this;omega
 ·rw [h1]at e;injection e with e;injection e with e;subst e;exact fun e=>h3 e.symm
theorem K8{cs:List ByteArray}{ws:List ae}{W W':World}{base:Nat}{g:Option Nat}(hl:ed W W' base g):∀ {js:List Nat} {vs:List EnV},(∀v∈vs,Far W g v)→jx cs ws W W.heap.size js vs→jx cs ws W' W'.heap.size js vs
 | [],[],_,_=>trivial
 |_::_,v::_,hf,h=>⟨h.1.left (hf v (List.mem_cons_self ..)) hl,K8 hl (fun u hu=>hf u (List.mem_cons_of_mem _ hu)) h.2⟩
 | [],_::_,_,h=>h.elim
 |_::_,[],_,h=>h.elim
structure SfI(cs:List ByteArray)(ws:List ae)(a:Int)(wq:World)(i:Nat)(js:List Nat)(ns:List Int)(vs:List EnV)(m:Int)(A:Option Addr)(c:Nat)(A':Option Addr)(c':Nat)(wr:World):Prop where
 low:i <2→js=[]∧m=a
 find:∀x,2≤i→ff (lgN cs ws) 2 (cs.length-2) x=(fl (lgN cs ws) x js).or (ff (lgN cs ws) i (cs.length-i) x)
 most:2≤i→dr cs ws a=max m (mo (lgN cs ws) a i (cs.length-i))
 least:a≤m
 nums:tu (lgN cs ws) js ns
 ens:jx cs ws wr wr.heap.size js vs
 own:af wr wq.heap.size 3 (.slice A vs.length c) vs.length (vs.flatMap EnV.cells)
 own':af wr wq.heap.size 1 (.slice A' ns.length c') ns.length (ns.map (Value.int .i64))
 apart:gq (.slice A vs.length c) (.slice A' ns.length c')
 far:∀v∈vs,Far wr (Value.ownBlock (.slice A vs.length c)) v
 far':∀v∈vs,Far wr (Value.ownBlock (.slice A' ns.length c')) v
 below:Below wq.heap.size wq wr
 few:js.length≤i
section
variable {cs:List ByteArray} {ws:List ae} {a m:Int} {wq wr w1:World} {i c c':Nat} {js:List Nat} {ns:List Int} {vs:List EnV} {A A':Option Addr}
theorem c0t:SfI cs ws a wq 0 [] [] [] a none 0 none 0 wq:=
 {low:=fun _=>⟨rfl,rfl⟩,find:=fun _ h=>by omega,most:=fun h=>by omega,least:=Int.le_refl _,nums:=trivial,ens:=trivial,own:=af.nil _ _ _,own':=af.nil _ _ _,apart:=gq.nil _ _ _,far:=fun v h=>by simp at h,far':=fun v h=>by simp at h,below:=br,few:=Nat.le_refl _}
theorem Of(h:SfI cs ws a wq i js ns vs m A c A' c' wr)(hb:Below wr.heap.size wr w1){k:Nat}(hk:i≤k)(h1:k <2→js=[]∧m=a)(h2:∀x,2≤k→ff (lgN cs ws) 2 (cs.length-2) x=(fl (lgN cs ws) x js).or (ff (lgN cs ws) k (cs.length-k) x))(h3:2≤k→dr cs ws a=max m (mo (lgN cs ws) a k (cs.length-k))):SfI cs ws a wq k js ns vs m A c A' c' w1:=
 {low:=h1,find:=h2,most:=h3,least:=h.least,nums:=h.nums,ens:=th hb.size hb h.ens,own:=h.own.fresh_below hb,own':=h.own'.fresh_below hb,apart:=h.apart,far:=fun v hv=>(h.far v hv).size hb.size,far':=fun v hv=>(h.far' v hv).size hb.size,below:=h.below.trans (hb.mono h.below.size),few:=Nat.le_trans h.few hk}
theorem c0v(h:SfI cs ws a wq i js ns vs m A c A' c' wr)(hi:i <2)(hb:Below wr.heap.size wr w1):SfI cs ws a wq (i+1) js ns vs m A c A' c' w1:=by
 obtain⟨e1,e2⟩:=h.low hi;refine Of h hb (by omega) (fun _=>⟨e1,e2⟩) (fun x hx=>?_) (fun hx=>?_)
 ·obtain rfl:i=1:=by omega
  rw [e1];simp [fl]
 ·obtain rfl:i=1:=by omega
  rw [e2];have:=zf (g:=lgN cs ws) (a:=a) (cs.length-2) 2;unfold dr;show _=max a (mo (lgN cs ws) a 2 (cs.length-2));omega
theorem c0u(h:SfI cs ws a wq i js ns vs m A c A' c' wr)(hi:2≤i)(hl:i <cs.length)(ho:scO (ar cs ws i)=false)(hb:Below wr.heap.size wr w1):SfI cs ws a wq (i+1) js ns vs m A c A' c' w1:=by
 have e:cs.length-i=(cs.length- (i+1))+1:=by omega
 refine Of h hb (by omega) (fun hx=>by omega) (fun x _=>?_) (fun _=>?_)
 ·rw [h.find x hi,e,Jz (by rw [Cv ho];intro h;cases h)]
 ·rw [h.most hi,e,T0 (Cv ho)]
theorem c0s{w5 w6:World}{q d c5 c6:Nat}{A2 A5 A6:Option Addr}(h:SfI cs ws a wq i js ns vs m A c A' c' wr)(hi:2≤i)(hl:i <cs.length)(ho:scO (ar cs ws i)=true)(hb:Below wr.heap.size wr w1)(hr:ab w1 w1.heap.size A2 q d bz.cells 4 (scL (ar cs ws i)))(hf:∀p,A2=some p→wr.heap.size≤p.block)(hl5:ed w1 w5 wq.heap.size (Value.ownBlock (.slice A vs.length c)))(ho5:af w5 wq.heap.size 3 (.slice A5 (vs.length+1) c5) (vs.length+1) (vs.flatMap EnV.cells++[.int .i64 i,.slice A2 q d,.bool (scB (ar cs ws i))]))(hn5:Value.ownBlock (.slice A5 (vs.length+1) c5)=Value.ownBlock (.slice A vs.length c)∨∀k,Value.ownBlock (.slice A5 (vs.length+1) c5)=some k→w1.heap.size≤k)(hl6:ed w5 w6 wq.heap.size (Value.ownBlock (.slice A' ns.length c')))(ho6:af w6 wq.heap.size 1 (.slice A6 (ns.length+1) c6) (ns.length+1) (ns.map (Value.int .i64)++[.int .i64 (scN (ar cs ws i))]))(hn6:Value.ownBlock (.slice A6 (ns.length+1) c6)=Value.ownBlock (.slice A' ns.length c')∨∀k,Value.ownBlock (.slice A6 (ns.length+1) c6)=some k→w5.heap.size≤k):
 SfI cs ws a wq (i+1) (js++[i]) (ns++[scN (ar cs ws i)]) (vs++[⟨(i:Int),A2,q,d,scB (ar cs ws i)⟩]) (if m <scN (ar cs ws i)then scN (ar cs ws i)else m) A5 c5 A6 c6 w6∧
  (vs++[(⟨(i:Int),A2,q,d,scB (ar cs ws i)⟩:EnV)]).length=vs.length+1∧(ns++[scN (ar cs ws i)]).length=ns.length+1:=by
 have e:cs.length-i=(cs.length- (i+1))+1:=by omega
 have ev:(vs++[(⟨(i:Int),A2,q,d,scB (ar cs ws i)⟩:EnV)]).length=vs.length+1:=by simp
 have en:(ns++[scN (ar cs ws i)]).length=ns.length+1:=by simp
 obtain⟨v,hv⟩:∃v:EnV,v=⟨(i:Int),A2,q,d,scB (ar cs ws i)⟩:=⟨_,rfl⟩
 have h6:ku cs ws w1 w1.heap.size i v:=by rw [hv];exact⟨rfl,rfl,hr⟩
 have h3:∀b,Value.ownBlock (.slice A vs.length c)=some b→b <wr.heap.size:=fun b hb=>(h.own.lt b hb).2
 have h2:∀b,Value.ownBlock (.slice A' ns.length c')=some b→b <wr.heap.size:=fun b hb=>(h.own'.lt b hb).2
 have f1:Far w1 (Value.ownBlock (.slice A vs.length c)) v:=by rw [hv];exact Far.new (v:=⟨(i:Int),A2,q,d,scB (ar cs ws i)⟩) hr hf h3
 have f2:Far w1 (Value.ownBlock (.slice A' ns.length c')) v:=by rw [hv];exact Far.new (v:=⟨(i:Int),A2,q,d,scB (ar cs ws i)⟩) hr hf h2
 have h7:jx cs ws w1 w1.heap.size (js++[i]) (vs++[v]):=K6 h6 (th hb.size hb h.ens)
 have fa:∀u∈vs++[v],Far w1 (Value.ownBlock (.slice A vs.length c)) u:=fun u hu=>by
  rcases List.mem_append.1 hu with hu|hu
  ·exact(h.far u hu).size hb.size
  ·obtain rfl:=List.mem_singleton.1 hu;exact f1
 have fb:∀u∈vs++[v],Far w1 (Value.ownBlock (.slice A' ns.length c')) u:=fun u hu=>by
  rcases List.mem_append.1 hu with hu|hu
  ·exact(h.far' u hu).size hb.size
  ·obtain rfl:=List.mem_singleton.1 hu;exact f2
 have h8:=K8 hl5 fa h7
 have h1:∀u∈vs++[v],Far w5 (Value.ownBlock (.slice A' ns.length c')) u:=fun u hu=>(fb u hu).size hl5.size
 have h5:=K8 hl6 h1 h8
 have h4:∀u∈vs++[v],Far w5 (Value.ownBlock (.slice A5 (vs.length+1) c5)) u:=fun u hu=>(fa u hu).grow hl5.size hn5
 have h0:gq (.slice A5 (vs.length+1) c5) (.slice A' ns.length c'):=h.apart.grow (N:=w1.heap.size) hn5 (fun g hg=>Nat.lt_of_lt_of_le (h2 g hg) hb.size)
 have h9:gq (.slice A5 (vs.length+1) c5) (.slice A6 (ns.length+1) c6):=(h0.symm.grow (N:=w5.heap.size) hn6 (fun g hg=>(ho5.lt g hg).2)).symm
 rw [←hv]at ev
 refine⟨?_,by rw [←hv];exact ev,en⟩
 rw [←hv]
 refine {low:=fun hx=>by omega,find:=fun x _=>?_,most:=fun _=>?_,least:=?_,nums:=Sa (zm ho) h.nums,ens:=h5,own:=?_,own':=?_,apart:=?_,far:=?_,far':=?_,below:=?_,few:=?_}
 ·rw [h.find x hi,V8,e]
  simp only [ff]
  cases fl (lgN cs ws) x js with
  |some k=>simp
  |none=>split<;>simp
 ·rw [h.most hi,e,Sy (zm ho)]
  split<;>omega
 ·have:=h.least;split<;>omega
 ·rw [ev,List.flatMap_append]
  have:=ho5.left hl6 h0.symm.other
  rw [hv]
  simpa [EnV.cells]using this
 ·rw [en,List.map_append];exact ho6
 ·rw [ev,en];exact h9
 ·rw [ev];exact fun u hu=>(h4 u hu).size hl6.size
 ·rw [en];exact fun u hu=>(h1 u hu).grow hl6.size hn6
 ·exact hl6.below ler (hl5.below ler (h.below.trans (hb.mono h.below.size)))
 ·rw [List.length_append];have:=h.few;simp;omega
theorem c0w(h:SfI cs ws a wq cs.length js ns vs m A c A' c' wr):(∀x,ff (lgN cs ws) 2 (cs.length-2) x=fl (lgN cs ws) x js)∧dr cs ws a=m:=by
 by_cases h2:2≤cs.length
 ·refine⟨fun x=>?_,?_⟩
  ·rw [h.find x h2,Nat.sub_self];simp [ff]
  ·rw [h.most h2,Nat.sub_self];have:=h.least;simp only [mo];omega
 ·obtain⟨e1,e2⟩:=h.low (by omega);refine⟨fun x=>?_,?_⟩
  ·rw [e1,show cs.length-2=0 by omega];rfl
  ·rw [e2];unfold dr;rw [show cs.length-2=0 by omega];rfl
end
end
end Go.Proofs.YtcldpfhpkbeaiadGreat
