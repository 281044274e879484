/- A part of the proof of FsMounts. No condition of ours. -/
import Derived.Test.YtcldpfhpkbeaiadGreatFsMounts42
set_option maxRecDepth 20000
set_option maxHeartbeats 4000000
namespace Go.Proofs.YtcldpfhpkbeaiadGreat
open Go.RowKit
noncomputable def prB(T:ByteArray):Bool:=decide (prE T=0)
theorem lh{T:ByteArray}(h:prE T=0):prB T=true:=by unfold prB;exact dT h
theorem re{T:ByteArray}(h:prE T≠0):prB T=false:=by unfold prB;exact dF h
structure NpI(cs:List ByteArray)(ws:List ae)(t:TypeId)(M:Nat)(wa:World)(T:ByteArray)(i:Nat)(wx:World):Prop where
 text:T=pnT cs ws i
 pt:∃D q d D' q' d',wx.heap[M]?=some (.cells #[.int .i64 (prS T),.slice D q d,.slice D' q' d'] t (0,0))∧PtR D q d D' q' d' (prP T) (prG T) wx
 below:Below wa.heap.size wa wx
 lo:wa.heap.size≤M
theorem k0q(A:Option Addr)(n c:Nat)(cs:List ByteArray)(A':Option Addr)(n' c':Nat)(ws:List ae)(w:World)(r:ab w w.heap.size A n c (fun z=>[.string z]) 1 cs)(r':ab w w.heap.size A' n' c' ae.cells 2 ws):Calls Tryz.prog 10 #[.agg #[.slice A n c,.slice A' n' c']] w (qv cs ws w):=by
 have hQ:=r.len;subst hQ;have hN:=r'.len;subst hN;obtain⟨wa,hs⟩:∃wa,wa=(w.alloc (.cells #[.slice A cs.length c,.slice A' ws.length c'] 25)).alloc (.cells cf 45):=⟨_,rfl⟩;have hJ:wa.heap.size=w.heap.size+2:=by rw [hs];simp
 have hx:Below w.heap.size w wa:=by rw [hs];exact(br.alloc ler _).alloc (by simp) _
 have hE:wa.heap[w.heap.size+1]?=some (.cells cf 45 (0,0)):=by rw [hs];have:=A_ (w.alloc (.cells #[.slice A cs.length c,.slice A' ws.length c'] 25)) (.cells cf 45);rw [show(w.alloc (.cells #[.slice A cs.length c,.slice A' ws.length c'] 25)).heap.size=w.heap.size+1 by simp]at this;exact this
 have hF:wa.heap[w.heap.size]?=some (.cells #[.slice A cs.length c,.slice A' ws.length c'] 25 (0,0)):=by rw [hs];exact(heap_alloc_old _ _ (by simp)).trans (A_ w _)
 have hH:w.heap.size≤wa.heap.size:=by omega
 have RA:=h_ ((r.below hx).more hH);have hL:=h_ ((r'.below hx).more hH);have hA:Hid ((cf:Array Value).all (·.oneCell')=true):=by simp [Hid,Value.oneCell']
 have HC:Hid (∀W,Below wa.heap.size wa W→W.cell? ⟨w.heap.size,0,none⟩=some (.slice A cs.length c)∧W.cell? ⟨w.heap.size,1,none⟩=some (.slice A' ws.length c')∧w.heap.size <W.heap.size∧Hid (W.heap[w.heap.size+1]?=some (.cells cf 45 (0,0)))):=fun W h=>by have q0:=ah hF (ag hF) h;exact⟨aj q0 0,aj q0 1,ag q0,ah hE (ag hE) h⟩
 have hw:=h_ (xe A _ c cs A' _ c' ws wa RA.o hL.o);have hG:=h_ hs;have hj:=h_ hx;have hR:=h_ hJ;clear r r' hs hx hE hF hJ hH;by_cases hd:au cs ws=0
 ·obtain⟨z1,z2,_,_,z3⟩:=jz hd;have hc:Hid (∀(k:Nat) W,k <cs.length→Below wa.heap.size wa W→Calls Tryz.prog 24 #[.agg #[.slice A cs.length c,.slice A' ws.length c'],.int .i64 k] W fun e w'=>e= .returned (.string (ar cs ws k))∧Below W.heap.size W w'):=fun k W hk h=>Sf A _ c cs A' _ c' ws k W ((RA.o.below h).more h.size) ((hL.o.below h).more h.size) hk z3
  have hC:Hid (∀t W,Calls Tryz.prog 23 #[.string t] W (sa t W)):=fun t W=>h0n t W
  unfold sa at hC;have hK:=h_ (fun h=>ve (cs:=cs) (ws:=ws) hd h);have hI:=h_ (fun h=>vf (cs:=cs) (ws:=ws) hd h);have Z1:=h_ z1;rw [hd]at hw;clear hd z2 z3 z1;by_cases hn:cs.length <2
  ·have hy:Hid (o9 (pnT cs ws cs.length) (nwT cs ws)):=Ra ⟨fun h=>by omega,fun h=>by have:=Z1.o;omega⟩;go_enter Tryz.func10,Tryz.ntmps10;go_wp2_with(go_at_call 9;rw [←hG.o];refine hw.o.mono ?_;rintro e w1 ⟨rfl,hg⟩;obtain⟨v0,v1,vl,_⟩:=HC.o w1 hg;have hh:=h_ hg;clear hg)
   have E0:Hid (NpI cs ws 45 w1.heap.size wa ⟨#[]⟩ 0 (w1.alloc (.cells cf 45))):=by
    obtain⟨_,b,c,d⟩:=sr q9;refine {text:=rfl,pt:=⟨none,0,0,none,0,0,?_,?_⟩,below:=hh.o.alloc hh.o.size _,lo:=hh.o.size}
    ·rw [b];exact A_ w1 _
    ·rw [c,d];exact PtR.nil _
   have hf:Hid (wa.heap.size≤w1.heap.size):=hh.o.size;clear v0 v1 vl;go_loopw [6,7,24] (fun v6 v7 v24 wr=>∃(i:Nat) (T:ByteArray),i≤cs.length∧v24= .int .i64 i∧v6= .int .i64 (prN T)∧v7= .bool (prB T)∧Hid (NpI cs ws 45 w1.heap.size wa T i wr)) (fun _ _ v24 _=>cs.length- (intOf v24).toNat)
   case atStart=>exact⟨0,⟨#[]⟩,zl,rfl,by rw [(sr q9).1],by rw [re q9],E0.o⟩
   case round=>
    obtain⟨i,T,hi,rfl,rfl,rfl,hP⟩:=hrel;obtain⟨w4,rfl⟩:∃z:World,z=wr:=⟨_,rfl⟩;obtain⟨D,q,d,D',q',d',hM,hu⟩:=hP.o.pt;have HM:=h_ hM;have HP:=h_ hu;clear hM hu E0;by_cases hlt:i <cs.length
    ·have hp:i <cs.length:=by omega
     have i1:(i:Int) < (cs.length:Int):=by omega
     have hq:Hid (pnT cs ws (i+1)=nh T (ar cs ws i)):=by rw [hP.o.text];rfl
     have h9:=h_ (hC.o (ar cs ws i));have hv:=h_ (hc.o i);obtain⟨u0,u1,u2,_⟩:=HC.o w4 hP.o.below;clear hc;generalize ar cs ws i=t at*;have hc:Hid (∀(k:Nat) W,k <cs.length→Below wa.heap.size wa W→k=i→Calls Tryz.prog 24 #[.agg #[.slice A cs.length c,.slice A' ws.length c'],.int .i64 k] W fun e w'=>e= .returned (.string t)∧Below W.heap.size W w'):=fun k W hk h e=>by subst e;exact hv.o W hk h
     clear hv;by_cases hp1:prE t=0
     ·by_cases hp0:prE T=0
      ·have ht:Hid (prB T=true):=lh hp0;by_cases hnn:prN T <prN t
       ·generalize hfb:prB T=fb at*;obtain rfl:fb=true:=hfb.symm.trans (lh hp0);clear hfb;have HS:=h_ (hq.o.trans (qe hp1 (.inr hnn)));have hr:Hid (prB t=true):=lh hp1;rw [hp1]at h9;clear hp1
        go_upto_if 45 with(first
         |(go_at_call 24;refine(hc.o i _ hp hP.o.below rfl).mono ?_;rintro e w5 ⟨rfl,h2⟩;have h3:=h_ (ah HM.o (ag HM.o) h2);have P5:=h_ (HP.o.go h2);have h6:=h_ (hP.o.below.trans (h2.mono hP.o.below.size));clear h2)
         |(go_at_call 23;refine(h9.o _).mono ?_;rintro e w6 ⟨G,g,h,G',g',h',rfl,r6,h4,h1⟩;have h8:=h_ (ah h3.o (ag h3.o) h1);have P6:=h_ (P5.o.go h1);have h5:=h_ (h6.o.trans (h1.mono h6.o.size));have Q6:Hid (PtR G g h G' g' h' (prP t) (prG t) w6):=⟨r6,h4,lz _⟩;clear h1 r6 h4))
        have h0:=h_ (cq h8.o (.cells #[.int .i64 (prS t),.slice G g h,.slice G' g' h'] 45));have h7:=h_ (A_ w6 (.cells #[.int .i64 (prS t),.slice G g h,.slice G' g' h'] 45));have P7:=h_ (P6.o.new (.cells #[.int .i64 (prS t),.slice G g h,.slice G' g' h'] 45));have Q7:=h_ (Q6.o.new (.cells #[.int .i64 (prS t),.slice G g h,.slice G' g' h'] 45));have ha:=h_ (h5.o.alloc h5.o.size (.cells #[.int .i64 (prS t),.slice G g h,.slice G' g' h'] 45));generalize w6.alloc (.cells #[.int .i64 (prS t),.slice G g h,.slice G' g' h'] 45)=w7 at*;have k0:=rc0 h0.o;have k1:=rc1 h0.o;have k2:=rc2 h0.o;have k3:=ak h0.o 0;have k4:=ak h0.o 1;have k5:=ak h0.o 2;have l0:=rc0 h7.o;have l1:=rc1 h7.o;have l2:=rc2 h7.o;go_wp2_with fail;go_region_law(fail)
        all_goals
         have E:Hid (NpI cs ws 45 w1.heap.size wa t (i+1) (((w7.setCell ⟨w1.heap.size,0,none⟩ (.int .i64 (prS t))).setCell ⟨w1.heap.size,1,none⟩ (.slice G g h)).setCell ⟨w1.heap.size,2,none⟩ (.slice G' g' h')).drew):= {text:=HS.o.symm,pt:=⟨G,g,h,G',g',h',pz rfl h0.o,Q7.o.set3 h0.o _ _ _⟩,below:=qt ha.o hf.o,lo:=hf.o};clear k0 k1 k2 k3 k4 k5;go_wp2_with fail;go_roundw
         case rel=>exact⟨i+1,t,by omega,by go_num,rfl,by rw [hr.o],E.o⟩
         case measure=>(simp [intOf];try omega)
       ·generalize hfb:prB T=fb at*;obtain rfl:fb=true:=hfb.symm.trans (lh hp0);have hB:Hid (prB T=true):=lh hp0;clear hfb;have HS:=h_ (hq.o.trans (zc hp0 hnn));rw [hp1]at h9;clear hp1 hp0
        go_upto_if 45 with(first
         |(go_at_call 24;refine(hc.o i _ hp hP.o.below rfl).mono ?_;rintro e w5 ⟨rfl,h2⟩;have h3:=h_ (ah HM.o (ag HM.o) h2);have P5:=h_ (HP.o.go h2);have h6:=h_ (hP.o.below.trans (h2.mono hP.o.below.size));clear h2)
         |(go_at_call 23;refine(h9.o _).mono ?_;rintro e w6 ⟨G,g,h,G',g',h',rfl,r6,h4,h1⟩;have h8:=h_ (ah h3.o (ag h3.o) h1);have P6:=h_ (P5.o.go h1);have h5:=h_ (h6.o.trans (h1.mono h6.o.size));have Q6:Hid (PtR G g h G' g' h' (prP t) (prG t) w6):=⟨r6,h4,lz _⟩;clear h1 r6 h4))
        have h0:=h_ (cq h8.o (.cells #[.int .i64 (prS t),.slice G g h,.slice G' g' h'] 45));have h7:=h_ (A_ w6 (.cells #[.int .i64 (prS t),.slice G g h,.slice G' g' h'] 45));have P7:=h_ (P6.o.new (.cells #[.int .i64 (prS t),.slice G g h,.slice G' g' h'] 45));have Q7:=h_ (Q6.o.new (.cells #[.int .i64 (prS t),.slice G g h,.slice G' g' h'] 45));have ha:=h_ (h5.o.alloc h5.o.size (.cells #[.int .i64 (prS t),.slice G g h,.slice G' g' h'] 45));have E:Hid (NpI cs ws 45 w1.heap.size wa T (i+1) (w6.alloc (.cells #[.int .i64 (prS t),.slice G g h,.slice G' g' h'] 45))):= {text:=HS.o.symm,pt:=⟨D,q,d,D',q',d',h0.o,P7.o⟩,below:=ha.o,lo:=hf.o};go_wp2_with fail;go_roundw
        case rel=>exact⟨i+1,T,by omega,by go_num,rfl,by rw [hB.o],E.o⟩
        case measure=>(simp [intOf];try omega)
      ·have ht:Hid (prB T=false):=re hp0;generalize hfb:prB T=fb at*;obtain rfl:fb=false:=hfb.symm.trans (re hp0);clear hfb;have HS:=h_ (hq.o.trans (qe hp1 (.inl hp0)));have hr:Hid (prB t=true):=lh hp1;rw [hp1]at h9;clear hp1
       go_upto_if 45 with(first
        |(go_at_call 24;refine(hc.o i _ hp hP.o.below rfl).mono ?_;rintro e w5 ⟨rfl,h2⟩;have h3:=h_ (ah HM.o (ag HM.o) h2);have P5:=h_ (HP.o.go h2);have h6:=h_ (hP.o.below.trans (h2.mono hP.o.below.size));clear h2)
        |(go_at_call 23;refine(h9.o _).mono ?_;rintro e w6 ⟨G,g,h,G',g',h',rfl,r6,h4,h1⟩;have h8:=h_ (ah h3.o (ag h3.o) h1);have P6:=h_ (P5.o.go h1);have h5:=h_ (h6.o.trans (h1.mono h6.o.size));have Q6:Hid (PtR G g h G' g' h' (prP t) (prG t) w6):=⟨r6,h4,lz _⟩;clear h1 r6 h4))
       have h0:=h_ (cq h8.o (.cells #[.int .i64 (prS t),.slice G g h,.slice G' g' h'] 45));have h7:=h_ (A_ w6 (.cells #[.int .i64 (prS t),.slice G g h,.slice G' g' h'] 45));have P7:=h_ (P6.o.new (.cells #[.int .i64 (prS t),.slice G g h,.slice G' g' h'] 45));have Q7:=h_ (Q6.o.new (.cells #[.int .i64 (prS t),.slice G g h,.slice G' g' h'] 45));have ha:=h_ (h5.o.alloc h5.o.size (.cells #[.int .i64 (prS t),.slice G g h,.slice G' g' h'] 45));generalize w6.alloc (.cells #[.int .i64 (prS t),.slice G g h,.slice G' g' h'] 45)=w7 at*;have k0:=rc0 h0.o;have k1:=rc1 h0.o;have k2:=rc2 h0.o;have k3:=ak h0.o 0;have k4:=ak h0.o 1;have k5:=ak h0.o 2;have l0:=rc0 h7.o;have l1:=rc1 h7.o;have l2:=rc2 h7.o;go_wp2_with fail;go_region_law(fail)
       all_goals
        have E:Hid (NpI cs ws 45 w1.heap.size wa t (i+1) (((w7.setCell ⟨w1.heap.size,0,none⟩ (.int .i64 (prS t))).setCell ⟨w1.heap.size,1,none⟩ (.slice G g h)).setCell ⟨w1.heap.size,2,none⟩ (.slice G' g' h')).drew):= {text:=HS.o.symm,pt:=⟨G,g,h,G',g',h',pz rfl h0.o,Q7.o.set3 h0.o _ _ _⟩,below:=qt ha.o hf.o,lo:=hf.o};clear k0 k1 k2 k3 k4 k5;go_wp2_with fail;go_roundw
        case rel=>exact⟨i+1,t,by omega,by go_num,rfl,by rw [hr.o],E.o⟩
        case measure=>(simp [intOf];try omega)
     ·have g1:(prE t==0)=false:=bF hp1;have ht:Hid (prB T=prB T):=rfl;have HS:=h_ (hq.o.trans (vh hp1));clear hp1
      go_upto_if 45 with(first
       |(go_at_call 24;refine(hc.o i _ hp hP.o.below rfl).mono ?_;rintro e w5 ⟨rfl,h2⟩;have h3:=h_ (ah HM.o (ag HM.o) h2);have P5:=h_ (HP.o.go h2);have h6:=h_ (hP.o.below.trans (h2.mono hP.o.below.size));clear h2)
       |(go_at_call 23;refine(h9.o _).mono ?_;rintro e w6 ⟨G,g,h,G',g',h',rfl,r6,h4,h1⟩;have h8:=h_ (ah h3.o (ag h3.o) h1);have P6:=h_ (P5.o.go h1);have h5:=h_ (h6.o.trans (h1.mono h6.o.size));have Q6:Hid (PtR G g h G' g' h' (prP t) (prG t) w6):=⟨r6,h4,lz _⟩;clear h1 r6 h4))
      have h0:=h_ (cq h8.o (.cells #[.int .i64 (prS t),.slice G g h,.slice G' g' h'] 45));have h7:=h_ (A_ w6 (.cells #[.int .i64 (prS t),.slice G g h,.slice G' g' h'] 45));have P7:=h_ (P6.o.new (.cells #[.int .i64 (prS t),.slice G g h,.slice G' g' h'] 45));have Q7:=h_ (Q6.o.new (.cells #[.int .i64 (prS t),.slice G g h,.slice G' g' h'] 45));have ha:=h_ (h5.o.alloc h5.o.size (.cells #[.int .i64 (prS t),.slice G g h,.slice G' g' h'] 45));have E:Hid (NpI cs ws 45 w1.heap.size wa T (i+1) (w6.alloc (.cells #[.int .i64 (prS t),.slice G g h,.slice G' g' h'] 45))):= {text:=HS.o.symm,pt:=⟨D,q,d,D',q',d',h0.o,P7.o⟩,below:=ha.o,lo:=hf.o};go_wp2_with fail;go_roundw
      case rel=>exact⟨i+1,T,by omega,by go_num,rfl,rfl,E.o⟩
      case measure=>(simp [intOf];try omega)
    ·obtain rfl:i=cs.length:=by omega
     have i1:¬((cs.length:Int):Int) < (cs.length:Int):=by omega
     have he:=h_ (show o9 T (nwT cs ws) by rw [hP.o.text];exact hy.o);obtain⟨_,_,_,v2⟩:=HC.o w4 hP.o.below;by_cases hT:prE T=0
     ·obtain⟨e1,e2⟩:=hK.o (he.o.2.2.2.2.1 hT);have F:=h_ e1;have F2:=h_ e2;have k0:=rc0 v2.o;have k1:=rc1 v2.o;have k2:=rc2 v2.o;have k3:=ak v2.o 0;have k4:=ak v2.o 1;have k5:=ak v2.o 2;have l0:=rc0 HM.o;have l1:=rc1 HM.o;have l2:=rc2 HM.o;generalize hfb:prB T=fb at*;obtain rfl:fb=true:=hfb.symm.trans (lh hT);clear e1 e2 hfb hT;go_wp2_with fail;go_region_law(fail)
      all_goals
       have hm:=pz (x':=prS T) (G:=D) (g:=q) (h:=d) (G':=D') (g':=q') (h':=d') rfl v2.o;have hz:=h_ hm;have P9:=h_ (HP.o.set3 v2.o (.int .i64 (prS T)) (.slice D q d) (.slice D' q' d'));have hD:=h_ (qt (u:=.int .i64 (prS T)) (v:=.slice D q d) (z:=.slice D' q' d') (hj.o.trans (hP.o.below.mono hj.o.size)) (show w.heap.size≤w.heap.size+1 by omega));clear hm k0 k1 k2 k3 k4 k5;generalize(((w4.setCell ⟨w.heap.size+1,0,none⟩ (.int .i64 (prS T))).setCell ⟨w.heap.size+1,1,none⟩ (.slice D q d)).setCell ⟨w.heap.size+1,2,none⟩ (.slice D' q' d')).drew=w9 at*;go_wp2;refine bodyPost_ret (jj rfl _ _ (w.heap.size+1) _ #[.int .i64 (prS T),.slice D q d,.slice D' q' d'] (0,0) _ rfl hz.o Tryz.underlying45 rfl er) rfl ?_;exact⟨D,q,d,D',q',d',by rw [F.o,F2.o,←he.o.1,←he.o.2.1]<;>rfl,by rw [F2.o,←he.o.2.2.1];exact P9.o.a1,by rw [F2.o,←he.o.2.2.2.1];exact P9.o.a2,hD.o⟩
     ·obtain⟨e1,e2⟩:=hI.o (fun k=>hT (he.o.2.2.2.2.2 k));have F:=h_ e1;have F2:=h_ e2;generalize hfb:prB T=fb at*;obtain rfl:fb=false:=hfb.symm.trans (re hT);clear e1 e2 hfb hT;go_wp2_with(refine wpList_store_rowTo rfl _ _ _ rfl rfl (w.heap.size+1) cf rfl rfl 45 cf v2.o er rfl hA.o ?_);refine bodyPost_ret (jj rfl _ _ (w.heap.size+1) _ cf (0,0) _ rfl (bh v2.o) Tryz.underlying45 rfl er) rfl ?_;exact za F.o F2.o (below_setRow (hj.o.trans (hP.o.below.mono hj.o.size)) (by omega) _)
  ·have hy:Hid (o9 (pnT cs ws 2) (nwT cs ws)):=Ra ⟨fun h=>rfl,fun h=>by omega⟩;go_enter Tryz.func10,Tryz.ntmps10;go_wp2_with(go_at_call 9;rw [←hG.o];refine hw.o.mono ?_;rintro e w1 ⟨rfl,hg⟩;obtain⟨v0,v1,vl,_⟩:=HC.o w1 hg;have hh:=h_ hg;clear hg)
   have E0:Hid (NpI cs ws 45 w1.heap.size wa ⟨#[]⟩ 0 (w1.alloc (.cells cf 45))):=by
    obtain⟨_,b,c,d⟩:=sr q9;refine {text:=rfl,pt:=⟨none,0,0,none,0,0,?_,?_⟩,below:=hh.o.alloc hh.o.size _,lo:=hh.o.size}
    ·rw [b];exact A_ w1 _
    ·rw [c,d];exact PtR.nil _
   have hf:Hid (wa.heap.size≤w1.heap.size):=hh.o.size;clear v0 v1 vl;go_loopw [6,7,24] (fun v6 v7 v24 wr=>∃(i:Nat) (T:ByteArray),i≤2∧v24= .int .i64 i∧v6= .int .i64 (prN T)∧v7= .bool (prB T)∧Hid (NpI cs ws 45 w1.heap.size wa T i wr)) (fun _ _ v24 _=>2- (intOf v24).toNat)
   case atStart=>exact⟨0,⟨#[]⟩,zl,rfl,by rw [(sr q9).1],by rw [re q9],E0.o⟩
   case round=>
    obtain⟨i,T,hi,rfl,rfl,rfl,hP⟩:=hrel;obtain⟨w4,rfl⟩:∃z:World,z=wr:=⟨_,rfl⟩;obtain⟨D,q,d,D',q',d',hM,hu⟩:=hP.o.pt;have HM:=h_ hM;have HP:=h_ hu;clear hM hu E0;by_cases hlt:i <2
    ·have hp:i <cs.length:=by omega
     have i1:(i:Int) <2:=by omega
     have hq:Hid (pnT cs ws (i+1)=nh T (ar cs ws i)):=by rw [hP.o.text];rfl
     have h9:=h_ (hC.o (ar cs ws i));have hv:=h_ (hc.o i);obtain⟨u0,u1,u2,_⟩:=HC.o w4 hP.o.below;clear hc;generalize ar cs ws i=t at*;have hc:Hid (∀(k:Nat) W,k <cs.length→Below wa.heap.size wa W→k=i→Calls Tryz.prog 24 #[.agg #[.slice A cs.length c,.slice A' ws.length c'],.int .i64 k] W fun e w'=>e= .returned (.string t)∧Below W.heap.size W w'):=fun k W hk h e=>by subst e;exact hv.o W hk h
     clear hv;by_cases hp1:prE t=0
     ·by_cases hp0:prE T=0
      ·have ht:Hid (prB T=true):=lh hp0;by_cases hnn:prN T <prN t
       ·generalize hfb:prB T=fb at*;obtain rfl:fb=true:=hfb.symm.trans (lh hp0);clear hfb;have HS:=h_ (hq.o.trans (qe hp1 (.inr hnn)));have hr:Hid (prB t=true):=lh hp1;rw [hp1]at h9;clear hp1
        go_upto_if 45 with(first
         |(go_at_call 24;refine(hc.o i _ hp hP.o.below rfl).mono ?_;rintro e w5 ⟨rfl,h2⟩;have h3:=h_ (ah HM.o (ag HM.o) h2);have P5:=h_ (HP.o.go h2);have h6:=h_ (hP.o.below.trans (h2.mono hP.o.below.size));clear h2)
         |(go_at_call 23;refine(h9.o _).mono ?_;rintro e w6 ⟨G,g,h,G',g',h',rfl,r6,h4,h1⟩;have h8:=h_ (ah h3.o (ag h3.o) h1);have P6:=h_ (P5.o.go h1);have h5:=h_ (h6.o.trans (h1.mono h6.o.size));have Q6:Hid (PtR G g h G' g' h' (prP t) (prG t) w6):=⟨r6,h4,lz _⟩;clear h1 r6 h4))
        have h0:=h_ (cq h8.o (.cells #[.int .i64 (prS t),.slice G g h,.slice G' g' h'] 45));have h7:=h_ (A_ w6 (.cells #[.int .i64 (prS t),.slice G g h,.slice G' g' h'] 45));have P7:=h_ (P6.o.new (.cells #[.int .i64 (prS t),.slice G g h,.slice G' g' h'] 45));have Q7:=h_ (Q6.o.new (.cells #[.int .i64 (prS t),.slice G g h,.slice G' g' h'] 45));have ha:=h_ (h5.o.alloc h5.o.size (.cells #[.int .i64 (prS t),.slice G g h,.slice G' g' h'] 45));generalize w6.alloc (.cells #[.int .i64 (prS t),.slice G g h,.slice G' g' h'] 45)=w7 at*;have k0:=rc0 h0.o;have k1:=rc1 h0.o;have k2:=rc2 h0.o;have k3:=ak h0.o 0;have k4:=ak h0.o 1;have k5:=ak h0.o 2;have l0:=rc0 h7.o;have l1:=rc1 h7.o;have l2:=rc2 h7.o;go_wp2_with fail;go_region_law(fail)
        all_goals
         have E:Hid (NpI cs ws 45 w1.heap.size wa t (i+1) (((w7.setCell ⟨w1.heap.size,0,none⟩ (.int .i64 (prS t))).setCell ⟨w1.heap.size,1,none⟩ (.slice G g h)).setCell ⟨w1.heap.size,2,none⟩ (.slice G' g' h')).drew):= {text:=HS.o.symm,pt:=⟨G,g,h,G',g',h',pz rfl h0.o,Q7.o.set3 h0.o _ _ _⟩,below:=qt ha.o hf.o,lo:=hf.o};clear k0 k1 k2 k3 k4 k5;go_wp2_with fail;go_roundw
         case rel=>exact⟨i+1,t,by omega,by go_num,rfl,by rw [hr.o],E.o⟩
         case measure=>(simp [intOf];try omega)
       ·generalize hfb:prB T=fb at*;obtain rfl:fb=true:=hfb.symm.trans (lh hp0);have hB:Hid (prB T=true):=lh hp0;clear hfb;have HS:=h_ (hq.o.trans (zc hp0 hnn));rw [hp1]at h9;clear hp1 hp0
        go_upto_if 45 with(first
         |(go_at_call 24;refine(hc.o i _ hp hP.o.below rfl).mono ?_;rintro e w5 ⟨rfl,h2⟩;have h3:=h_ (ah HM.o (ag HM.o) h2);have P5:=h_ (HP.o.go h2);have h6:=h_ (hP.o.below.trans (h2.mono hP.o.below.size));clear h2)
         |(go_at_call 23;refine(h9.o _).mono ?_;rintro e w6 ⟨G,g,h,G',g',h',rfl,r6,h4,h1⟩;have h8:=h_ (ah h3.o (ag h3.o) h1);have P6:=h_ (P5.o.go h1);have h5:=h_ (h6.o.trans (h1.mono h6.o.size));have Q6:Hid (PtR G g h G' g' h' (prP t) (prG t) w6):=⟨r6,h4,lz _⟩;clear h1 r6 h4))
        have h0:=h_ (cq h8.o (.cells #[.int .i64 (prS t),.slice G g h,.slice G' g' h'] 45));have h7:=h_ (A_ w6 (.cells #[.int .i64 (prS t),.slice G g h,.slice G' g' h'] 45));have P7:=h_ (P6.o.new (.cells #[.int .i64 (prS t),.slice G g h,.slice G' g' h'] 45));have Q7:=h_ (Q6.o.new (.cells #[.int .i64 (prS t),.slice G g h,.slice G' g' h'] 45));have ha:=h_ (h5.o.alloc h5.o.size (.cells #[.int .i64 (prS t),.slice G g h,.slice G' g' h'] 45));have E:Hid (NpI cs ws 45 w1.heap.size wa T (i+1) (w6.alloc (.cells #[.int .i64 (prS t),.slice G g h,.slice G' g' h'] 45))):= {text:=HS.o.symm,pt:=⟨D,q,d,D',q',d',h0.o,P7.o⟩,below:=ha.o,lo:=hf.o};go_wp2_with fail;go_roundw
        case rel=>exact⟨i+1,T,by omega,by go_num,rfl,by rw [hB.o],E.o⟩
        case measure=>(simp [intOf];try omega)
      ·have ht:Hid (prB T=false):=re hp0;generalize hfb:prB T=fb at*;obtain rfl:fb=false:=hfb.symm.trans (re hp0);clear hfb;have HS:=h_ (hq.o.trans (qe hp1 (.inl hp0)));have hr:Hid (prB t=true):=lh hp1;rw [hp1]at h9;clear hp1
       go_upto_if 45 with(first
        |(go_at_call 24;refine(hc.o i _ hp hP.o.below rfl).mono ?_;rintro e w5 ⟨rfl,h2⟩;have h3:=h_ (ah HM.o (ag HM.o) h2);have P5:=h_ (HP.o.go h2);have h6:=h_ (hP.o.below.trans (h2.mono hP.o.below.size));clear h2)
        |(go_at_call 23;refine(h9.o _).mono ?_;rintro e w6 ⟨G,g,h,G',g',h',rfl,r6,h4,h1⟩;have h8:=h_ (ah h3.o (ag h3.o) h1);have P6:=h_ (P5.o.go h1);have h5:=h_ (h6.o.trans (h1.mono h6.o.size));have Q6:Hid (PtR G g h G' g' h' (prP t) (prG t) w6):=⟨r6,h4,lz _⟩;clear h1 r6 h4))
       have h0:=h_ (cq h8.o (.cells #[.int .i64 (prS t),.slice G g h,.slice G' g' h'] 45));have h7:=h_ (A_ w6 (.cells #[.int .i64 (prS t),.slice G g h,.slice G' g' h'] 45));have P7:=h_ (P6.o.new (.cells #[.int .i64 (prS t),.slice G g h,.slice G' g' h'] 45));have Q7:=h_ (Q6.o.new (.cells #[.int .i64 (prS t),.slice G g h,.slice G' g' h'] 45));have ha:=h_ (h5.o.alloc h5.o.size (.cells #[.int .i64 (prS t),.slice G g h,.slice G' g' h'] 45));generalize w6.alloc (.cells #[.int .i64 (prS t),.slice G g h,.slice G' g' h'] 45)=w7 at*;have k0:=rc0 h0.o;have k1:=rc1 h0.o;have k2:=rc2 h0.o;have k3:=ak h0.o 0;have k4:=ak h0.o 1;have k5:=ak h0.o 2;have l0:=rc0 h7.o;have l1:=rc1 h7.o;have l2:=rc2 h7.o;go_wp2_with fail;go_region_law(fail)
       all_goals
        have E:Hid (NpI cs ws 45 w1.heap.size wa t (i+1) (((w7.setCell ⟨w1.heap.size,0,none⟩ (.int .i64 (prS t))).setCell ⟨w1.heap.size,1,none⟩ (.slice G g h)).setCell ⟨w1.heap.size,2,none⟩ (.slice G' g' h')).drew):= {text:=HS.o.symm,pt:=⟨G,g,h,G',g',h',pz rfl h0.o,Q7.o.set3 h0.o _ _ _⟩,below:=qt ha.o hf.o,lo:=hf.o};clear k0 k1 k2 k3 k4 k5;go_wp2_with fail;go_roundw
        case rel=>exact⟨i+1,t,by omega,by go_num,rfl,by rw [hr.o],E.o⟩
        case measure=>(simp [intOf];try omega)
     ·have g1:(prE t==0)=false:=bF hp1;have ht:Hid (prB T=prB T):=rfl;have HS:=h_ (hq.o.trans (vh hp1));clear hp1
      go_upto_if 45 with(first
       |(go_at_call 24;refine(hc.o i _ hp hP.o.below rfl).mono ?_;rintro e w5 ⟨rfl,h2⟩;have h3:=h_ (ah HM.o (ag HM.o) h2);have P5:=h_ (HP.o.go h2);have h6:=h_ (hP.o.below.trans (h2.mono hP.o.below.size));clear h2)
       |(go_at_call 23;refine(h9.o _).mono ?_;rintro e w6 ⟨G,g,h,G',g',h',rfl,r6,h4,h1⟩;have h8:=h_ (ah h3.o (ag h3.o) h1);have P6:=h_ (P5.o.go h1);have h5:=h_ (h6.o.trans (h1.mono h6.o.size));have Q6:Hid (PtR G g h G' g' h' (prP t) (prG t) w6):=⟨r6,h4,lz _⟩;clear h1 r6 h4))
      have h0:=h_ (cq h8.o (.cells #[.int .i64 (prS t),.slice G g h,.slice G' g' h'] 45));have h7:=h_ (A_ w6 (.cells #[.int .i64 (prS t),.slice G g h,.slice G' g' h'] 45));have P7:=h_ (P6.o.new (.cells #[.int .i64 (prS t),.slice G g h,.slice G' g' h'] 45));have Q7:=h_ (Q6.o.new (.cells #[.int .i64 (prS t),.slice G g h,.slice G' g' h'] 45));have ha:=h_ (h5.o.alloc h5.o.size (.cells #[.int .i64 (prS t),.slice G g h,.slice G' g' h'] 45));have E:Hid (NpI cs ws 45 w1.heap.size wa T (i+1) (w6.alloc (.cells #[.int .i64 (prS t),.slice G g h,.slice G' g' h'] 45))):= {text:=HS.o.symm,pt:=⟨D,q,d,D',q',d',h0.o,P7.o⟩,below:=ha.o,lo:=hf.o};go_wp2_with fail;go_roundw
      case rel=>exact⟨i+1,T,by omega,by go_num,rfl,rfl,E.o⟩
      case measure=>(simp [intOf];try omega)
    ·obtain rfl:i=2:=by omega
     have i1:¬(2:Int) <2:=by omega
     have he:=h_ (show o9 T (nwT cs ws) by rw [hP.o.text];exact hy.o);obtain⟨_,_,_,v2⟩:=HC.o w4 hP.o.below;by_cases hT:prE T=0
     ·obtain⟨e1,e2⟩:=hK.o (he.o.2.2.2.2.1 hT);have F:=h_ e1;have F2:=h_ e2;have k0:=rc0 v2.o;have k1:=rc1 v2.o;have k2:=rc2 v2.o;have k3:=ak v2.o 0;have k4:=ak v2.o 1;have k5:=ak v2.o 2;have l0:=rc0 HM.o;have l1:=rc1 HM.o;have l2:=rc2 HM.o;generalize hfb:prB T=fb at*;obtain rfl:fb=true:=hfb.symm.trans (lh hT);clear e1 e2 hfb hT;go_wp2_with fail;go_region_law(fail)
      all_goals
       have hm:=pz (x':=prS T) (G:=D) (g:=q) (h:=d) (G':=D') (g':=q') (h':=d') rfl v2.o;have hz:=h_ hm;have P9:=h_ (HP.o.set3 v2.o (.int .i64 (prS T)) (.slice D q d) (.slice D' q' d'));have hD:=h_ (qt (u:=.int .i64 (prS T)) (v:=.slice D q d) (z:=.slice D' q' d') (hj.o.trans (hP.o.below.mono hj.o.size)) (show w.heap.size≤w.heap.size+1 by omega));clear hm k0 k1 k2 k3 k4 k5;generalize(((w4.setCell ⟨w.heap.size+1,0,none⟩ (.int .i64 (prS T))).setCell ⟨w.heap.size+1,1,none⟩ (.slice D q d)).setCell ⟨w.heap.size+1,2,none⟩ (.slice D' q' d')).drew=w9 at*;go_wp2;refine bodyPost_ret (jj rfl _ _ (w.heap.size+1) _ #[.int .i64 (prS T),.slice D q d,.slice D' q' d'] (0,0) _ rfl hz.o Tryz.underlying45 rfl er) rfl ?_;exact⟨D,q,d,D',q',d',by rw [F.o,F2.o,←he.o.1,←he.o.2.1]<;>rfl,by rw [F2.o,←he.o.2.2.1];exact P9.o.a1,by rw [F2.o,←he.o.2.2.2.1];exact P9.o.a2,hD.o⟩
     ·obtain⟨e1,e2⟩:=hI.o (fun k=>hT (he.o.2.2.2.2.2 k));have F:=h_ e1;have F2:=h_ e2;generalize hfb:prB T=fb at*;obtain rfl:fb=false:=hfb.symm.trans (re hT);clear e1 e2 hfb hT;go_wp2_with(refine wpList_store_rowTo rfl _ _ _ rfl rfl (w.heap.size+1) cf rfl rfl 45 cf v2.o er rfl hA.o ?_);refine bodyPost_ret (jj rfl _ _ (w.heap.size+1) _ cf (0,0) _ rfl (bh v2.o) Tryz.underlying45 rfl er) rfl ?_;exact za F.o F2.o (below_setRow (hj.o.trans (hP.o.below.mono hj.o.size)) (by omega) _)
 ·obtain⟨e1,e2⟩:=S6 hd;have F:=h_ e1;have F2:=h_ e2;have i4:(au cs ws !=0)=true:=bN hd;generalize au cs ws=de at*;clear hd e1 e2;go_enter Tryz.func10,Tryz.ntmps10
  go_wp2_with(first
   |(go_at_call 9;rw [←hG.o];refine hw.o.mono ?_;rintro e w1 ⟨rfl,hg⟩;obtain⟨v0,v1,_,v2⟩:=HC.o w1 hg;have hh:=h_ hg;clear hg)
   |(refine wpList_store_rowTo rfl _ _ _ rfl rfl (w.heap.size+1) cf rfl rfl 45 cf v2.o er rfl hA.o ?_))
  refine bodyPost_ret (jj rfl _ _ (w.heap.size+1) _ cf (0,0) _ rfl (bh v2.o) Tryz.underlying45 rfl er) rfl ?_;exact za F.o F2.o (below_setRow (hj.o.trans (hh.o.mono hj.o.size)) (by omega) _)
def ff(g:Nat→Option Int):Nat→Nat→Int→Option Nat
 |_,0,_=>none
 |i,m+1,x=>if g i=some x then some i else ff g (i+1) m x
def mo(g:Nat→Option Int)(a:Int):Nat→Nat→Int
 |_,0=>a
 |i,m+1=>max (mo g a (i+1) m) ((g i).getD a)
def chn(g:Nat→Option Int)(i m:Nat):Nat→Int→List Nat
 |0,_=>[]
 |f+1,n=>match ff g i m n with
  |none=>[]
  |some j=>j::chn g i m f (n+1)
def stp(b:Nat→Bool)(l:List Nat):List Nat:=(l.reverse.dropWhile (fun j=> !b j)).reverse
section
variable {g:Nat→Option Int} {a x:Int}
theorem Jy:∀ {m i j:Nat},ff g i m x=some j→i≤j∧j <i+m∧g j=some x
 |0,_,_,h=>by cases h
 |m+1,i,j,h=>by
  unfold ff at h;split at h
  ·injection h with h;subst h;exact⟨Nat.le_refl _,by omega,by assumption⟩
  ·obtain⟨h1,h2,h3⟩:=Jy h;exact⟨by omega,by omega,h3⟩
theorem r0h{m i:Nat}(h:g i=some x):ff g i (m+1) x=some i:=by simp [ff,h]
theorem Jz{m i:Nat}(h:g i≠some x):ff g i (m+1) x=ff g (i+1) m x:=by simp [ff,h]
theorem ze(m i:Nat):mo g a i (m+1)=max (mo g a (i+1) m) ((g i).getD a):=rfl
theorem zf:∀(m i:Nat),a≤mo g a i m
 |0,_=>Int.le_refl _
 |m+1,i=>by have:=zf m (i+1);rw [ze];omega
theorem T1:∀ {m i j:Nat},i≤j→j <i+m→g j=some x→x≤mo g a i m
 |0,_,_,h1,h2,_=>by omega
 |m+1,i,j,h1,h2,h=>by
  rw [ze];by_cases e:j=i
  ·subst e;rw [h];simp only [Option.getD_some];omega
  ·have:=T1 (show i+1≤j by omega) (show j <i+1+m by omega) h;omega
theorem T0{m i:Nat}(h:g i=none):mo g a i (m+1)=mo g a (i+1) m:=by have:=zf (g:=g) (a:=a) m (i+1);rw [ze,h];simp only [Option.getD_none];omega
theorem Sy{m i:Nat}(h:g i=some x):mo g a i (m+1)=max (mo g a (i+1) m) x:=by rw [ze,h];rfl
theorem Im{T:Int}(ha:a≤T)(hg:∀i y,g i=some y→y≤T):∀(m i:Nat),mo g a i m≤T
 |0,_=>ha
 |m+1,i=>by
  have:=Im ha hg m (i+1);rw [ze];cases h:g i with
  |none=>simp only [Option.getD_none];omega
  |some y=>have:=hg i y h;simp only [Option.getD_some];omega
theorem r0g{m i j:Nat}(h:ff g i m x=some j):x≤mo g a i m:=by obtain⟨h1,h2,h3⟩:=Jy h;exact T1 h1 h2 h3
theorem u0m{i m f j:Nat}{n:Int}(h:ff g i m n=some j)(hf:0 <f):chn g i m f n=j::chn g i m (f-1) (n+1):=by obtain⟨f,rfl⟩:∃k,f=k+1:=⟨f-1,by omega⟩;simp [chn,h]
theorem u0n{i m f:Nat}{n:Int}(h:ff g i m n=none):chn g i m f n=[]:=by cases f<;>simp [chn,h]
end
section
variable {b:Nat→Bool}
theorem O3{l:List Nat}{j:Nat}(h:b j=true):stp b (l++[j])=l++[j]:=by simp [stp,h]
theorem O4{l:List Nat}{j:Nat}(h:b j=false):stp b (l++[j])=stp b l:=by simp [stp,h]
theorem G8(l:List Nat):∃r,l=stp b l++r:=by refine⟨(l.reverse.takeWhile (fun j=> !b j)).reverse,?_⟩;unfold stp;rw [←List.reverse_append,List.takeWhile_append_dropWhile,List.reverse_reverse]
theorem b0z(l:List Nat):l.take (stp b l).length=stp b l:=by
 obtain⟨r,h⟩:=G8 (b:=b) l;conv=>lhs;rw [h]
 rw [←h];conv=>lhs;arg 2;rw [h]
 rw [List.take_left' rfl]
theorem c0a(l:List Nat):(stp b l).length≤l.length:=by obtain⟨r,h⟩:=G8 (b:=b) l;have:=congrArg List.length h;rw [List.length_append]at this;omega
end
noncomputable def lgN(cs:List ByteArray)(ws:List ae)(i:Nat):Option Int:=if scO (ar cs ws i)=true then some (scN (ar cs ws i))else none
noncomputable def lgB(cs:List ByteArray)(ws:List ae)(i:Nat):Bool:=scB (ar cs ws i)
noncomputable def dr(cs:List ByteArray)(ws:List ae)(a:Int):Int:=mo (lgN cs ws) a 2 (cs.length-2)
noncomputable def sj(cs:List ByteArray)(ws:List ae)(a:Int):List Nat:=chn (lgN cs ws) 2 (cs.length-2) (dr cs ws a-a).toNat (a+1)
noncomputable def jh(cs:List ByteArray)(ws:List ae)(a:Int):List Nat:=stp (lgB cs ws) (sj cs ws a)
theorem Ox(t:ByteArray):0≤scN t∧scN t <4294967296:=by
 unfold scN d9;have:=z7 t;split
 ·split<;>omega
 ·omega
theorem n0p{cs:List ByteArray}{ws:List ae}{i:Nat}{y:Int}(h:lgN cs ws i=some y):0≤y∧y <4294967296:=by
 unfold lgN at h;split at h
 ·injection h with h;rw [←h];exact Ox _
 ·cases h
theorem zm{cs:List ByteArray}{ws:List ae}{i:Nat}(h:scO (ar cs ws i)=true):lgN cs ws i=some (scN (ar cs ws i)):=if_pos h
theorem Cv{cs:List ByteArray}{ws:List ae}{i:Nat}(h:scO (ar cs ws i)=false):lgN cs ws i=none:=if_neg (by rw [h];decide)
theorem Gg{cs:List ByteArray}{ws:List ae}{a:Int}(ha:a <4294967296):a≤dr cs ws a∧dr cs ws a <4294967296:=
 ⟨zf _ _,by have:=Im (g:=lgN cs ws) (a:=a) (T:=4294967295) (by omega) (fun i y h=>by have:=n0p h;omega) (cs.length-2) 2;unfold dr;omega⟩
end Go.Proofs.YtcldpfhpkbeaiadGreat
