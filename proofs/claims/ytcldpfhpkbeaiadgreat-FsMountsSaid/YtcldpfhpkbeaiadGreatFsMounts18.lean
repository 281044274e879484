/- A part of the proof of FsMounts. No condition of ours. -/
import Derived.Test.YtcldpfhpkbeaiadGreatFsMounts17
import Derived.OwnWalk
import Derived.OneCell
set_option maxRecDepth 20000
set_option maxHeartbeats 2000000
namespace Go.Proofs.YtcldpfhpkbeaiadGreat
open Go.RowKit Go.PlainAid
theorem k0d{l:List Int}{c:Int}{w:Nat}(hw:w≤15)(hh:Hit l c w):∃i:Nat,sgn l c w=i∧(sgL l 16)[((sgL l w).length+(c-d7 w l).toNat)]?=some (i:Int)∧0≤c-d7 w l:=by
 obtain⟨i,h1,h2⟩:=(vy hh.1).1 hh;have h0:0 <w:=by have:=hh.1;omega
 refine⟨i,Gb hh.1 h1 h2,?_,by have:=hh.2.1;omega⟩;have h3:=Oe h0 h1 16 (by omega);unfold dp at h2;rw [if_pos hh.1]at h2;rw [show c-d7 (w:Int) l=bp w (l.take i) by omega];exact h3
theorem w0j(n:Int):bits .and .u8 n 1=n%2:=by
 have h127:(BitVec.ofInt 8 1).toNat=2^1-1:=by decide
 have h0:(BitVec.ofInt 8 n&&&BitVec.ofInt 8 1).toNat=(n%((2^8:Nat):Int)).toNat%2^1:=by rw [BitVec.toNat_and,BitVec.toNat_ofInt,h127,Nat.and_two_pow_sub_one_eq_mod]
 show IntKind.u8.wrap ((BitVec.ofInt 8 n&&&BitVec.ofInt 8 1).toNat:Nat)=n%2;rw [h0,IntKind.wrap_u8];omega
theorem k0b(s:ByteArray)(p q r:Nat)(hq:q=p/8)(hr:r=p%8):bits .and .u8 (bt s q/2^r) 1=tb s p:=by subst hq;subst hr;rw [w0j];rfl
theorem Ff{b:Int}(h:0≤b∧b≤1):wrap64 b=b:=by unfold wrap64;omega
theorem I8{c b:Int}(h0:0≤c)(h1:c <32768)(hb:0≤b∧b≤1):bits .or .i64 (c*2) b=2*c+b:=by
 obtain⟨x,rfl⟩:=Int.eq_ofNat_of_zero_le h0;obtain⟨y,rfl⟩:=Int.eq_ofNat_of_zero_le hb.1;have hx:(x:Int)*2=((2^1*x:Nat):Int):=by omega
 have h2:(BitVec.ofInt 64 ((x:Int)*2)|||BitVec.ofInt 64 (y:Int)).toNat=2^1*x+y:=by rw [hx,BitVec.toNat_or,BitVec.ofInt_natCast,BitVec.ofInt_natCast,BitVec.toNat_ofNat,BitVec.toNat_ofNat,Nat.mod_eq_of_lt (by omega),Nat.mod_eq_of_lt (by omega),Nat.two_pow_add_eq_or_of_lt (by omega)]
 show IntKind.i64.wrap ((BitVec.ofInt 64 ((x:Int)*2)|||BitVec.ofInt 64 (y:Int)).toNat:Nat)=_;rw [h2,IntKind.wrap_i64];omega
theorem yw{b:Bool}{P:Prop}(h:b=true↔P)(hn:¬P):b=false:=by cases b;rfl;exact absurd (h.1 rfl) hn
theorem k0c(l:List Int)(s:ByteArray)(a:Nat)(A:Option Addr)(C0:Nat)(B:Nat)(W:World)(row:W.heap[B]?=some (.cells (dy (.slice A (sgL l 16).length C0) (bkF l 16) (bkG l 16) (bkC l)) 189 (0,0)))(hr:ab W W.heap.size A (sgL l 16).length C0 (fun z=>[.int .i64 z]) 1 (sgL l 16))(hcan:dt l=0)(hl:l.length≤320)(ha:a≤8*s.size)(hs:s.size≤1048575):Calls Tryz.prog 110 #[.pointer (some ⟨B,0,none⟩),.string s,.int .i64 a] W fun e w'=>∃q:Nat,e= .returned (.tuple #[.int .i64 (one l s a).1,.int .i64 (one l s a).2.1,.int .i64 (one l s a).2.2])∧w'=W.drewN q:=by
 have hF:=h_ row;have HR:=h_ hr;have hz:Hid (∀k:Nat,k≤15→0≤bkF l 16 k∧0≤bkC l k∧bkF l 16 k+bkC l k≤32768):=fun k hk=>Yg hcan hk
 have HL:Hid (∀(c:Int) (x:Nat) (V:World),V.heap=W.heap→x≤15→0≤c→c <2^x→Calls Tryz.prog 139 #[.pointer (some ⟨B,0,none⟩),.int .i64 c,.int .i64 x] V fun e w'=>∃(b:Bool) (q:Nat),e= .returned (.bool b)∧(b=true↔Lg l c x)∧w'=V.drewN q):=fun c x V hV h1 h2 h3=>n0n l _ c x B V (by rw [hV];exact row) hcan h1 h2 h3
 have hC:Hid (∀(c:Int) (w:Nat),w≤15→Hit l c w→∃i:Nat,sgn l c w=i∧(sgL l 16)[((sgL l w).length+(c-d7 w l).toNat)]?=some (i:Int)∧0≤c-d7 w l):=fun c w h1 h2=>k0d h1 h2
 have hM:=h_ (Gd l 16);clear row hcan hr;go_enter Tryz.func110,Tryz.ntmps110;go_wp2;go_loopw [2,9,10] (fun v2 v9 v10 wr=>∃(k q p:Nat) (c:Int),k≤15∧Hid (p=a+k)∧Hid (c=cN s a k)∧p≤8*s.size∧v2= .int .i64 (p:Int)∧v9= .int .i64 c∧v10= .int .i64 k∧Hid (wr=W.drewN q)∧Hid (one l s a=jt l s a (16-k) k)) (fun _ _ v10 _=>16- (intOf v10).toNat)
 case atStart=>exact⟨0,0,a,0,by omega,rfl,rfl,ha,rfl,rfl,rfl,rfl,rfl⟩
 case round=>
  obtain⟨k,q,p,c,hk,HP,hE,hS,rfl,rfl,rfl,HW,HN⟩:=hrel;have hp:p=a+k:=HP.o;have hc:c=cN s a k:=hE.o;have hu:wr.heap[B]?=some (.cells (dy (.slice A (sgL l 16).length C0) (bkF l 16) (bkG l 16) (bkC l)) 189 (0,0)):=by rw [HW.o];exact hF.o
  have cV:=(aj hu 0).trans (Xx _ _ _ _);have cF:=(aj hu (1+k)).trans (Ku _ _ (bkG l 16) (bkC l) k (by omega));have cG:=(aj hu (17+k)).trans (Xz _ (bkF l 16) _ (bkC l) k (by omega));have cC:=(aj hu (33+k)).trans (Kv _ (bkF l 16) (bkG l 16) _ k (by omega));obtain⟨b1,b2,b3⟩:=hz.o k hk;have hn:=Eb s a k
  have hP:(2:Int)^k≤32768:=by
   have:(2:Nat)^k≤2^15:=Nat.pow_le_pow_right (by omega) hk;have h2:((2^k:Nat):Int)≤((2^15:Nat):Int):=by exact_mod_cast this
   simpa using h2
  have hy:=h_ hn;have hD:=h_ (HL.o (cN s a k) k wr (by rw [HW.o];rfl) hk hn.1 hn.2);obtain⟨f,hf⟩:∃f,16-k=f+1:=⟨15-k,by omega⟩;rw [hf]at HN;rw [←hc]at hn hD hy;have c0:=hn.1;have c1:c <32768:=by omega
  have i2:(0:Int)≤(k:Int):=by omega
  have i3:(k:Int) <16:=by omega
  clear hu hn hP;by_cases hh:Hit l c k
  ·have hd:0 <k:=by have:=hh.1;omega
   have HO:Hid (one l s a=(sgn l c k,(p:Int),0)):=by simp only [Hid];rw [HN.o,Ic (by rw [←hc];exact hh),←hc,←hp]
   obtain⟨i,hJ,hG,hL⟩:=hC.o c k hk hh;rw [hJ]at HO;have eF:bkF l 16 k=d7 k l:=by unfold bkF;rw [if_pos ⟨hd,by omega⟩]
   have eG:bkG l 16 k=(sgL l k).length:=by unfold bkG;rw [if_pos ⟨hd,by omega⟩]
   have eC:bkC l k=bp k l:=by unfold bkC;rw [if_pos hd]
   rw [eF]at cF b1 b3;rw [eG]at cG;rw [eC]at cC b2 b3;have hN:=(gS.1 hG).1;have hU:=hM.o;obtain⟨h1,h2,h3⟩:=hh;obtain⟨bb,oo,hA,hW,hR⟩:=(HR.o.keep (w':=wr) (fun _ _=>by rw [HW.o];rfl)).one hG;subst hA;generalize d7 (k:Int) l=Fk at*;generalize bp (k:Int) l=Ck at*;generalize(sgL l k).length=Gk at*;generalize(sgL l 16).length=N at*;obtain⟨dd,hQ⟩:∃dd:Nat,c-Fk=dd:=⟨(c-Fk).toNat,by omega⟩;rw [hQ,Int.toNat_natCast]at hR hN;have hT:(Gk:Int)+c-Fk=((Gk+dd:Nat):Int):=by omega
   have g1:=dT (show(0:Int) < (k:Int) by omega);have g2:=dT (show(0:Int)≤(dd:Int) by omega);have g3:=dT (show(dd:Int) <Ck by omega);clear hG hJ hL HL hC hz hF HR hD HN hp hc hE HP hy;go_wp2;go_quiet(fail);go_wp2;obtain⟨Q1,hK⟩:∃Q1:Nat,Q1=nq:=⟨_,rfl⟩;rw [←hK];clear hK;go_quiet(fail);go_wp2;go_ret3;refine⟨q+(Q1+nq),?_,?_⟩
   ·rw [HO.o];rfl
   ·rw [HW.o,World.drewN_drewN,World.drewN_drewN]
  ·have HT:Hid (∀b,(b=true↔Lg l c k)→(b=true↔Mor l c k)):=fun b hb=>hb.trans (n0m hh)
   have HC:(k=0)∨(0 <k∧c <bkF l 16 k)∨(0 <k∧bkF l 16 k≤c∧bkC l k≤c-bkF l 16 k):=by
    by_cases hd:0 <k
    ·have eF:bkF l 16 k=d7 k l:=by unfold bkF;rw [if_pos ⟨hd,by omega⟩]
     have eC:bkC l k=bp k l:=by unfold bkC;rw [if_pos hd]
     rw [eF,eC];by_cases h1:d7 k l≤c
     ·refine .inr (.inr ⟨hd,h1,?_⟩);by_cases h2:c <d7 k l+bp k l
      ·exact absurd ⟨by omega,h1,h2⟩ hh
      ·omega
     ·exact .inr (.inl ⟨hd,by omega⟩)
    ·exact .inl (by omega)
   have h4:Hid (one l s a=jt l s a (f+1) k∧¬Hit l (cN s a k) k∧c=cN s a k∧p=a+k):=⟨HN.o,by rw [←hc];exact hh,hc,hp⟩;have hj:Hid (∀m:Nat,Calls Tryz.prog 139 #[.pointer (some ⟨B,0,none⟩),.int .i64 c,.int .i64 k] (wr.drewN m) fun e w'=>∃(b:Bool) (q:Nat),e= .returned (.bool b)∧(b=true↔Lg l c k)∧w'=(wr.drewN m).drewN q):=fun m=>HL.o c k (wr.drewN m) (by rw [HW.o];rfl) hk (by omega) (by have:=hy.o.2;exact this)
   have he:Hid (2*c+tb s p=cN s a (k+1)):=by rw [hc,hp];rfl
   have h8:=yc s p;obtain⟨qq,hH⟩:∃q:Nat,q=p/8:=⟨_,rfl⟩;obtain⟨rr,hB⟩:∃r:Nat,r=p%8:=⟨_,rfl⟩;have f1:(p:Int).tdiv 8=qq:=by rw [Int.tdiv_eq_ediv_of_nonneg (by omega)];omega
   have f2:(p:Int).tmod 8=rr:=by rw [Int.tmod_eq_emod_of_nonneg (by omega)];omega
   have h9:p <8*s.size→qq <s.size:=by omega
   have ht:rr≤7:=by omega
   have hg:=h_ (k0b s p qq rr hH hB);have hq:=h_ (And.intro hH hB);clear HL hD hC hz hF HR HN hh hc hp hH hB hy hE HP;generalize bkF l 16 k=Fk at*;generalize bkC l k=Ck at*;rcases HC with hd|⟨h1,h2⟩|⟨h1,h2,h3⟩
   ·have GK:Hid (¬0 <k):=by simp only [Hid];omega
    clear hd;by_cases hm:Mor l c k
    ·by_cases hsh:8*s.size≤p
     ·have j1:8*(s.size:Int)≤(p:Int):=by omega
      have F:Hid (one l s a=(0,0,3)):=by simp only [Hid];rw [h4.o.1,yx h4.o.2.1 (by rw [←h4.o.2.2.1];exact hm) (by have:=h4.o.2.2.2;omega)]
      have HM:=h_ hm;clear hm;clear hf h9 f1 f2 ht h8 hg hq he cV cG;go_wp2;have g1:=dF (show ¬0 <k by have:=GK.o;omega);have gw:IntKind.i64.wrap (c-Fk)=c-Fk:=by rw [IntKind.wrap_i64];omega
      go_quiet(fail);clear g1;have h6:=h_ (hj.o nq);obtain⟨w5,h5⟩:∃w5:World,w5=wr.drewN nq:=⟨_,rfl⟩;rw [←h5]at h6⊢;obtain⟨Q5,h7⟩:∃Q,Hid (w5=W.drewN Q):=⟨q+nq,by simp only [Hid];rw [h5,HW.o,World.drewN_drewN]⟩;clear h5;go_wp2_with(go_at_call 139;refine h6.o.mono ?_;rintro e w' ⟨b,q2,rfl,hb,rfl⟩;obtain rfl:b=true:=(HT.o b hb).2 HM.o;clear hb);go_wp2;go_ret3;refine⟨Q5+q2,?_,?_⟩
      ·rw [F.o];rfl
      ·rw [h7.o,World.drewN_drewN]
     ·have j1:=dF (show ¬8*(s.size:Int)≤(p:Int) by omega);have hv:qq <s.size:=h9 (by omega);have hx:=get_bt s qq hv;have h0:=bt_nonneg s qq;have hI:=bt_le s qq;have hw:=h_ (Cm hm)
      have F:Hid (one l s a=jt l s a (16- (k+1)) (k+1)):=by simp only [Hid];rw [h4.o.1,yy h4.o.2.1 (by rw [←h4.o.2.2.1];exact hm) (by have:=h4.o.2.2.2;omega),show 16- (k+1)=f by omega]
      have HM:=h_ hm;clear hm;clear hf h9 cV cG;go_wp2;have g1:=dF (show ¬0 <k by have:=GK.o;omega);have gw:IntKind.i64.wrap (c-Fk)=c-Fk:=by rw [IntKind.wrap_i64];omega
      go_quiet(fail);clear g1;have h6:=h_ (hj.o nq);obtain⟨w5,h5⟩:∃w5:World,w5=wr.drewN nq:=⟨_,rfl⟩;rw [←h5]at h6⊢;obtain⟨Q5,h7⟩:∃Q,Hid (w5=W.drewN Q):=⟨q+nq,by simp only [Hid];rw [h5,HW.o,World.drewN_drewN]⟩;clear h5;go_wp2_with(go_at_call 139;refine h6.o.mono ?_;rintro e w' ⟨b,q2,rfl,hb,rfl⟩;obtain rfl:b=true:=(HT.o b hb).2 HM.o;clear hb);go_wp2;refine⟨⟨k+1,Q5+q2,p+1,2*c+tb s p,by have:=hw.o;omega,?_,?_,by omega,by go_num,?_,by go_num,?_,F.o⟩,?_⟩
      ·have:=h4.o.2.2.2;show p+1=a+(k+1);omega
      ·exact he.o
      ·rw [hg.o,Ff h8,I8 c0 c1 h8]
      ·show _=_;rw [h7.o,World.drewN_drewN]
      ·simp [intOf];omega
    ·have F:Hid (one l s a=(0,0,7)):=by simp only [Hid];rw [h4.o.1,yz h4.o.2.1 (by rw [←h4.o.2.2.1];exact hm)]
     have HM:=h_ hm;clear hm;clear hf h9 f1 f2 ht h8 hg hq he cV cG;go_wp2;have g1:=dF (show ¬0 <k by have:=GK.o;omega);have gw:IntKind.i64.wrap (c-Fk)=c-Fk:=by rw [IntKind.wrap_i64];omega
     go_quiet(fail);clear g1;have h6:=h_ (hj.o nq);obtain⟨w5,h5⟩:∃w5:World,w5=wr.drewN nq:=⟨_,rfl⟩;rw [←h5]at h6⊢;obtain⟨Q5,h7⟩:∃Q,Hid (w5=W.drewN Q):=⟨q+nq,by simp only [Hid];rw [h5,HW.o,World.drewN_drewN]⟩;clear h5;go_wp2_with(go_at_call 139;refine h6.o.mono ?_;rintro e w' ⟨b,q2,rfl,hb,rfl⟩;obtain rfl:b=false:=yw (HT.o b hb) HM.o;clear hb);go_wp2;go_ret3;refine⟨Q5+q2,?_,?_⟩
     ·rw [F.o];rfl
     ·rw [h7.o,World.drewN_drewN]
   ·have GK:Hid (0 <k∧¬0≤c-Fk):=⟨h1,by omega⟩;by_cases hm:Mor l c k
    ·by_cases hsh:8*s.size≤p
     ·have j1:8*(s.size:Int)≤(p:Int):=by omega
      have F:Hid (one l s a=(0,0,3)):=by simp only [Hid];rw [h4.o.1,yx h4.o.2.1 (by rw [←h4.o.2.2.1];exact hm) (by have:=h4.o.2.2.2;omega)]
      have HM:=h_ hm;clear hm;clear hf h9 f1 f2 ht h8 hg hq he cV cG;go_wp2;have g1:=dT (show 0 <k by have:=GK.o;omega);have g2:=dF (show ¬Fk≤c by have:=GK.o;omega);have gw:IntKind.i64.wrap (c-Fk)=c-Fk:=by rw [IntKind.wrap_i64];omega
      go_quiet(fail);clear g1 g2;have h6:=h_ (hj.o nq);obtain⟨w5,h5⟩:∃w5:World,w5=wr.drewN nq:=⟨_,rfl⟩;rw [←h5]at h6⊢;obtain⟨Q5,h7⟩:∃Q,Hid (w5=W.drewN Q):=⟨q+nq,by simp only [Hid];rw [h5,HW.o,World.drewN_drewN]⟩;clear h5;go_wp2_with(go_at_call 139;refine h6.o.mono ?_;rintro e w' ⟨b,q2,rfl,hb,rfl⟩;obtain rfl:b=true:=(HT.o b hb).2 HM.o;clear hb);go_wp2;go_ret3;refine⟨Q5+q2,?_,?_⟩
      ·rw [F.o];rfl
      ·rw [h7.o,World.drewN_drewN]
     ·have j1:=dF (show ¬8*(s.size:Int)≤(p:Int) by omega);have hv:qq <s.size:=h9 (by omega);have hx:=get_bt s qq hv;have h0:=bt_nonneg s qq;have hI:=bt_le s qq;have hw:=h_ (Cm hm)
      have F:Hid (one l s a=jt l s a (16- (k+1)) (k+1)):=by simp only [Hid];rw [h4.o.1,yy h4.o.2.1 (by rw [←h4.o.2.2.1];exact hm) (by have:=h4.o.2.2.2;omega),show 16- (k+1)=f by omega]
      have HM:=h_ hm;clear hm;clear hf h9 cV cG;go_wp2;have g1:=dT (show 0 <k by have:=GK.o;omega);have g2:=dF (show ¬Fk≤c by have:=GK.o;omega);have gw:IntKind.i64.wrap (c-Fk)=c-Fk:=by rw [IntKind.wrap_i64];omega
      go_quiet(fail);clear g1 g2;have h6:=h_ (hj.o nq);obtain⟨w5,h5⟩:∃w5:World,w5=wr.drewN nq:=⟨_,rfl⟩;rw [←h5]at h6⊢;obtain⟨Q5,h7⟩:∃Q,Hid (w5=W.drewN Q):=⟨q+nq,by simp only [Hid];rw [h5,HW.o,World.drewN_drewN]⟩;clear h5;go_wp2_with(go_at_call 139;refine h6.o.mono ?_;rintro e w' ⟨b,q2,rfl,hb,rfl⟩;obtain rfl:b=true:=(HT.o b hb).2 HM.o;clear hb);go_wp2;refine⟨⟨k+1,Q5+q2,p+1,2*c+tb s p,by have:=hw.o;omega,?_,?_,by omega,by go_num,?_,by go_num,?_,F.o⟩,?_⟩
      ·have:=h4.o.2.2.2;show p+1=a+(k+1);omega
      ·exact he.o
      ·rw [hg.o,Ff h8,I8 c0 c1 h8]
      ·show _=_;rw [h7.o,World.drewN_drewN]
      ·simp [intOf];omega
    ·have F:Hid (one l s a=(0,0,7)):=by simp only [Hid];rw [h4.o.1,yz h4.o.2.1 (by rw [←h4.o.2.2.1];exact hm)]
     have HM:=h_ hm;clear hm;clear hf h9 f1 f2 ht h8 hg hq he cV cG;go_wp2;have g1:=dT (show 0 <k by have:=GK.o;omega);have g2:=dF (show ¬Fk≤c by have:=GK.o;omega);have gw:IntKind.i64.wrap (c-Fk)=c-Fk:=by rw [IntKind.wrap_i64];omega
     go_quiet(fail);clear g1 g2;have h6:=h_ (hj.o nq);obtain⟨w5,h5⟩:∃w5:World,w5=wr.drewN nq:=⟨_,rfl⟩;rw [←h5]at h6⊢;obtain⟨Q5,h7⟩:∃Q,Hid (w5=W.drewN Q):=⟨q+nq,by simp only [Hid];rw [h5,HW.o,World.drewN_drewN]⟩;clear h5;go_wp2_with(go_at_call 139;refine h6.o.mono ?_;rintro e w' ⟨b,q2,rfl,hb,rfl⟩;obtain rfl:b=false:=yw (HT.o b hb) HM.o;clear hb);go_wp2;go_ret3;refine⟨Q5+q2,?_,?_⟩
     ·rw [F.o];rfl
     ·rw [h7.o,World.drewN_drewN]
   ·have GK:Hid (0 <k∧0≤c-Fk∧¬c-Fk <Ck):=⟨h1,by omega,by omega⟩;by_cases hm:Mor l c k
    ·by_cases hsh:8*s.size≤p
     ·have j1:8*(s.size:Int)≤(p:Int):=by omega
      have F:Hid (one l s a=(0,0,3)):=by simp only [Hid];rw [h4.o.1,yx h4.o.2.1 (by rw [←h4.o.2.2.1];exact hm) (by have:=h4.o.2.2.2;omega)]
      have HM:=h_ hm;clear hm;clear hf h9 f1 f2 ht h8 hg hq he cV cG;go_wp2;have g1:=dT (show 0 <k by have:=GK.o;omega);have g2:=dT (show Fk≤c by have:=GK.o;omega);have g3:=dF (show ¬c-Fk <Ck by have:=GK.o;omega);have gw:IntKind.i64.wrap (c-Fk)=c-Fk:=by rw [IntKind.wrap_i64];omega
      go_quiet(fail);clear g1 g2 g3;have h6:=h_ (hj.o nq);obtain⟨w5,h5⟩:∃w5:World,w5=wr.drewN nq:=⟨_,rfl⟩;rw [←h5]at h6⊢;obtain⟨Q5,h7⟩:∃Q,Hid (w5=W.drewN Q):=⟨q+nq,by simp only [Hid];rw [h5,HW.o,World.drewN_drewN]⟩;clear h5;go_wp2_with(go_at_call 139;refine h6.o.mono ?_;rintro e w' ⟨b,q2,rfl,hb,rfl⟩;obtain rfl:b=true:=(HT.o b hb).2 HM.o;clear hb);go_wp2;go_ret3;refine⟨Q5+q2,?_,?_⟩
      ·rw [F.o];rfl
      ·rw [h7.o,World.drewN_drewN]
     ·have j1:=dF (show ¬8*(s.size:Int)≤(p:Int) by omega);have hv:qq <s.size:=h9 (by omega);have hx:=get_bt s qq hv;have h0:=bt_nonneg s qq;have hI:=bt_le s qq;have hw:=h_ (Cm hm)
      have F:Hid (one l s a=jt l s a (16- (k+1)) (k+1)):=by simp only [Hid];rw [h4.o.1,yy h4.o.2.1 (by rw [←h4.o.2.2.1];exact hm) (by have:=h4.o.2.2.2;omega),show 16- (k+1)=f by omega]
      have HM:=h_ hm;clear hm;clear hf h9 cV cG;go_wp2;have g1:=dT (show 0 <k by have:=GK.o;omega);have g2:=dT (show Fk≤c by have:=GK.o;omega);have g3:=dF (show ¬c-Fk <Ck by have:=GK.o;omega);have gw:IntKind.i64.wrap (c-Fk)=c-Fk:=by rw [IntKind.wrap_i64];omega
      go_quiet(fail);clear g1 g2 g3;have h6:=h_ (hj.o nq);obtain⟨w5,h5⟩:∃w5:World,w5=wr.drewN nq:=⟨_,rfl⟩;rw [←h5]at h6⊢;obtain⟨Q5,h7⟩:∃Q,Hid (w5=W.drewN Q):=⟨q+nq,by simp only [Hid];rw [h5,HW.o,World.drewN_drewN]⟩;clear h5;go_wp2_with(go_at_call 139;refine h6.o.mono ?_;rintro e w' ⟨b,q2,rfl,hb,rfl⟩;obtain rfl:b=true:=(HT.o b hb).2 HM.o;clear hb);go_wp2;refine⟨⟨k+1,Q5+q2,p+1,2*c+tb s p,by have:=hw.o;omega,?_,?_,by omega,by go_num,?_,by go_num,?_,F.o⟩,?_⟩
      ·have:=h4.o.2.2.2;show p+1=a+(k+1);omega
      ·exact he.o
      ·rw [hg.o,Ff h8,I8 c0 c1 h8]
      ·show _=_;rw [h7.o,World.drewN_drewN]
      ·simp [intOf];omega
    ·have F:Hid (one l s a=(0,0,7)):=by simp only [Hid];rw [h4.o.1,yz h4.o.2.1 (by rw [←h4.o.2.2.1];exact hm)]
     have HM:=h_ hm;clear hm;clear hf h9 f1 f2 ht h8 hg hq he cV cG;go_wp2;have g1:=dT (show 0 <k by have:=GK.o;omega);have g2:=dT (show Fk≤c by have:=GK.o;omega);have g3:=dF (show ¬c-Fk <Ck by have:=GK.o;omega);have gw:IntKind.i64.wrap (c-Fk)=c-Fk:=by rw [IntKind.wrap_i64];omega
     go_quiet(fail);clear g1 g2 g3;have h6:=h_ (hj.o nq);obtain⟨w5,h5⟩:∃w5:World,w5=wr.drewN nq:=⟨_,rfl⟩;rw [←h5]at h6⊢;obtain⟨Q5,h7⟩:∃Q,Hid (w5=W.drewN Q):=⟨q+nq,by simp only [Hid];rw [h5,HW.o,World.drewN_drewN]⟩;clear h5;go_wp2_with(go_at_call 139;refine h6.o.mono ?_;rintro e w' ⟨b,q2,rfl,hb,rfl⟩;obtain rfl:b=false:=yw (HT.o b hb) HM.o;clear hb);go_wp2;go_ret3;refine⟨Q5+q2,?_,?_⟩
     ·rw [F.o];rfl
     ·rw [h7.o,World.drewN_drewN]
structure Rd(W:World)(base ba bs:Nat)(s:ByteArray)(p:Nat):Prop where
 hb:base≤ba
 hb':base≤bs
 lt:ba <W.heap.size
 lt':bs <W.heap.size
 ne:ba≠bs
 at_:W.cell? ⟨ba,0,none⟩=some (.int .i64 p)
 free:W.frozen? ⟨ba,0,none⟩=false
 text:W.cell? ⟨bs,0,none⟩=some (.string s)
theorem w0m(x:Int)(t:Nat)(h0:0≤x)(h1:x≤255)(ht:t≤8):bits .and .u64 (IntKind.u64.wrap x) (IntKind.u64.wrap (IntKind.u64.wrap (2^t)-1))=x%2^t:=by
 have hp:(2:Nat)^t≤2^8:=Nat.pow_le_pow_right (by omega) ht;have h2:(0:Nat) <2^t:=Nat.pow_pos (by decide);have e2:((2:Int)^t)=((2^t:Nat):Int):=by simp
 rw [e2];generalize hP:(2:Nat)^t=P at*;have e1:IntKind.u64.wrap x=x:=by rw [IntKind.wrap_u64];omega
 have e3:IntKind.u64.wrap (P:Int)=P:=by rw [IntKind.wrap_u64];omega
 have e4:IntKind.u64.wrap ((P:Int)-1)=((P-1:Nat):Int):=by rw [IntKind.wrap_u64];omega
 rw [e1,e3,e4];obtain⟨n,rfl⟩:=Int.eq_ofNat_of_zero_le h0;rw [u64_and_nat _ _ (by omega) (by omega),←hP,Nat.and_two_pow_sub_one_eq_mod];simp
theorem j0p(a b:Int)(k t:Nat)(ha0:0≤a)(ha1:a <2^k)(hb0:0≤b)(hb1:b <2^t)(hk:k+t≤64):bits .or .u64 a (IntKind.u64.wrap (b*2^k))=a+b*2^k:=by
 obtain⟨x,rfl⟩:=Int.eq_ofNat_of_zero_le ha0;obtain⟨y,rfl⟩:=Int.eq_ofNat_of_zero_le hb0;have ek:((2:Int)^k)=((2^k:Nat):Int):=by simp
 have et:((2:Int)^t)=((2^t:Nat):Int):=by simp
 rw [ek]at ha1⊢;rw [et]at hb1;have h1:x <2^k:=by omega
 have h2:y <2^t:=by omega
 have h3:(2:Nat)^k*2^t≤2^64:=by rw [←Nat.pow_add];exact Nat.pow_le_pow_right (by omega) hk
 have h4:y+1≤2^t:=h2;have h5:2^k*(y+1)≤2^k*2^t:=Nat.mul_le_mul_left _ h4;rw [Nat.mul_add,Nat.mul_one]at h5
 have h6:x+2^k*y <18446744073709551616:=by have:(2:Nat)^64=18446744073709551616:=rfl;omega
 have e1:(y:Int)*((2^k:Nat):Int)=((2^k*y:Nat):Int):=by rw [Nat.mul_comm];simp
 rw [e1]
 have e2:IntKind.u64.wrap ((2^k*y:Nat):Int)=((2^k*y:Nat):Int):=by generalize 2^k*y=z at*;rw [IntKind.wrap_u64];omega
 rw [e2,u64_or_nat _ _ (by omega) (by omega),Nat.or_comm,←Nat.two_pow_add_eq_or_of_lt h1];omega
theorem Qf(s:ByteArray)(a k t p r q:Nat)(hp:p=a+k)(hq:q=p/8)(hr:r=p%8)(ht:r+t≤8)(hk:k+t≤64):bits .or .u64 (tn s a k) (IntKind.u64.wrap (bits .and .u64 (IntKind.u64.wrap (bt s q/2^r)) (IntKind.u64.wrap (IntKind.u64.wrap (2^t)-1))*2^k))=tn s a (k+t):=by have h0:=bt_nonneg s q;have h1:=bt_le s q;have h4:(0:Int) <2^r:=Int.pow_pos (by decide);have h2:0≤bt s q/2^r:=Int.ediv_nonneg h0 (by omega);have h3:bt s q/2^r≤bt s q:=Int.ediv_le_self _ h0;rw [w0m _ _ h2 (by omega) (by omega)];have hb:=Np s p t (by omega);rw [←hq,←hr]at hb;rw [←hb];have b1:=yb s a k;have b2:=yb s p t;rw [j0p _ _ k t b1.1 b1.2 b2.1 b2.2 hk,hp,←Nq]
theorem Rd.on{W w':World}{base ba bs p p':Nat}{s:ByteArray}(h:Rd W base ba bs s p)(hz:W.heap.size≤w'.heap.size)(hg:w'.heap[bs]?=W.heap[bs]?)(h1:w'.cell? ⟨ba,0,none⟩=some (.int .i64 p'))(h2:w'.frozen? ⟨ba,0,none⟩=false):Rd w' base ba bs s p':=
 ⟨h.hb,h.hb',by have:=h.lt;omega,by have:=h.lt';omega,h.ne,h1,h2,(World.cell?_of_block (a:=⟨bs,0,none⟩) hg).trans h.text⟩
theorem Rd.store{W:World}{base ba bs p:Nat}{s:ByteArray}(h:Rd W base ba bs s p)(n p':Nat):Rd ((W.drewN n).setCell ⟨ba,0,none⟩ (.int .i64 p')) base ba bs s p':=
 h.on (by simp [World.setCell]) (Below.heap_setCell (W.drewN n) ⟨ba,0,none⟩ _ bs (fun e=>h.ne e.symm)) (World.cell?_setCell_same (W.drewN n) ⟨ba,0,none⟩ (.int .i64 (p':Int)) (u:=.int .i64 (p:Int)) h.at_) (by rw [World.frozen?_setCell];exact h.free)
theorem Uv{W wr:World}{ba:Nat}(hg:W.grownBy wr (some ba))(n:Nat)(u:Value):W.grownBy ((wr.drewN n).setCell ⟨ba,0,none⟩ u) (some ba):=
 ⟨hg.os,hg.tape,hg.output,by have:=hg.size;simp [World.setCell];exact this,fun k hk hne=>(Below.heap_setCell (wr.drewN n) ⟨ba,0,none⟩ u k (fun e=>hne (by rw [e]))).trans (hg.block k hk hne)⟩
theorem Qg(s:ByteArray)(a w ba bs base:Nat)(W:World)(h:Rd W base ba bs s a)(hw:w≤64)(hfit:a+w≤8*s.size)(hsz:s.size≤140737488351232):Calls Tryz.prog 140 #[.int .i64 w,.pointer (some ⟨ba,0,none⟩),.pointer (some ⟨bs,0,none⟩)] W fun e w'=>e= .returned (.int .u64 (tn s a w))∧Rd w' base ba bs s (a+w)∧W.grownBy w' (some ba):=by
 have h1:=h.at_;have h2:=h.text;have h3:=h.free;go_enter Tryz.func140,Tryz.ntmps140;go_wp2;go_loopw [5,6] (fun v5 v6 wr=>∃k:Nat,k≤w∧v6= .int .i64 k∧v5= .int .u64 (tn s a k)∧Rd wr base ba bs s (a+k)∧W.grownBy wr (some ba)) (fun _ v6 _=>w- (intOf v6).toNat)
 case atStart=>exact⟨0,zl,rfl,rfl,h,⟨rfl,rfl,rfl,Nat.le_refl _,fun _ _ _=>rfl⟩⟩
 case round=>
  obtain⟨k,hk,rfl,rfl,hr,hg⟩:=hrel;have c1:=hr.at_;have c2:=hr.text;have c3:=hr.free;obtain⟨p,hp⟩:∃p,p=a+k:=⟨_,rfl⟩;rw [←hp]at c1 hr;have hn:p≤8*s.size:=by omega
  by_cases hlt:k <w
  ·obtain⟨t1,ha⟩:∃t:Nat,8- (p:Int)%8=t:=⟨8-p%8,by omega⟩;obtain⟨t2,he⟩:∃t:Nat,(w:Int)-k=t:=⟨w-k,by omega⟩;obtain⟨q,hq⟩:∃q:Nat,q=p/8:=⟨_,rfl⟩;obtain⟨r,h5⟩:∃r:Nat,r=p%8:=⟨_,rfl⟩;obtain⟨t1,ha⟩:∃t:Nat,8- (r:Int)=t:=⟨8-r,by omega⟩;have h9:q <s.size:=by omega
   have hs:r≤7:=by omega
   have f1:(p:Int).tdiv 8=q:=by rw [Int.tdiv_eq_ediv_of_nonneg (by omega)];omega
   have f2:(p:Int).tmod 8=r:=by rw [Int.tmod_eq_emod_of_nonneg (by omega)];omega
   have f3:IntKind.i64.wrap (q:Int)=q:=by rw [IntKind.wrap_i64];omega
   have f4:IntKind.i64.wrap (r:Int)=r:=by rw [IntKind.wrap_i64];omega
   have h6:=lf (P:=Tryz.prog) Tryz.underlying9 s q q _ rfl h9 (get_bt s q h9);have hc:=bt_nonneg s q;have hd:=bt_le s q;have hh:∃B,B=bt s q:=⟨_,rfl⟩;obtain⟨B,hB⟩:=hh;rw [←hB]at h6 hc hd;have HB:=h_ hB;clear hB;have HP:=h_ hp;have h7:=h_ ha;have h0:=h_ he;have HQ:=h_ hq;have h8:=h_ h5;have HH:=h_ hr;have HG:=h_ hg;have hf:(k:Int) <w:=by omega
   by_cases hm:t1≤t2
   ·have hj:(t1:Int)≤(t2:Int):=by omega
    have b1:1≤t1:=by omega
    have b2:t1≤8:=by omega
    clear hp hq h5 hr hg h;go_wp2;go_quiet(fail);clear f1 f2 f3 f4 h6;go_wp2;go_roundw
    case rel=>
     have e:=Qf s a k t1 p r q HP.o HQ.o h8.o (by have:=h7.o;omega) (by have:=h0.o;omega);have e2:((p:Int)+t1)=((a+(k+t1):Nat):Int):=by have:=HP.o;omega
     refine⟨k+t1,by have:=h0.o;omega,by go_num,?_,?_,Uv HG.o _ _⟩
     ·rw [←e,←HB.o]
     ·rw [e2];exact HH.o.store _ _
    case measure=>(simp [intOf];try omega)
   ·have hj:(t2:Int) < (t1:Int):=by omega
    have b1:1≤t2:=by omega
    have b2:t2≤8:=by omega
    clear hp hq h5 hr hg h;go_wp2;go_quiet(fail);clear f1 f2 f3 f4 h6;go_wp2;go_roundw
    case rel=>
     have e:=Qf s a k t2 p r q HP.o HQ.o h8.o (by have:=h7.o;omega) (by have:=h0.o;omega);have e2:((p:Int)+t2)=((a+(k+t2):Nat):Int):=by have:=HP.o;omega
     refine⟨k+t2,by have:=h0.o;omega,by go_num,?_,?_,Uv HG.o _ _⟩
     ·rw [←e,←HB.o]
     ·rw [e2];exact HH.o.store _ _
    case measure=>(simp [intOf];try omega)
  ·have h4:k=w:=by omega
   have F:Hid (tn s a k=tn s a w):=by rw [h4];rfl
   have F2:Hid (Rd wr base ba bs s (a+w)):=by rw [←h4,←hp];exact hr
   have hf:¬(k:Int) <w:=by omega
   have HG:=h_ hg;clear hp hr h4 h;go_wp2;go_ret;exact⟨ax F.o,F2.o,HG.o⟩
theorem V0(s:ByteArray)(p:Nat)(w:World):Calls Tryz.prog 111 #[.string s,.int .i64 p] w fun e w'=>∃ba bs,e= .returned (.func (.func 140) #[] #[.pointer (some ⟨ba,0,none⟩),.pointer (some ⟨bs,0,none⟩)])∧Rd w' w.heap.size ba bs s p∧Below w.heap.size w w':=by
 go_enter Tryz.func111,Tryz.ntmps111;go_wp2;go_ret
 have e0:∀(a b:Obj),((w.alloc a).alloc b).heap[w.heap.size]?=some a:=fun a b=>by rw [heap_alloc_old _ _ (by simp)];exact A_ w a
 have e1:∀(a b:Obj),((w.alloc a).alloc b).heap[w.heap.size+1]?=some b:=fun a b=>by have:=A_ (w.alloc a) b;simpa using this
 exact⟨w.heap.size+1,w.heap.size,rfl,⟨by omega,by omega,by simp,by simp;omega,by omega,cell_of_one (e1 _ _),free_of_one (e1 _ _),cell_of_one (e0 _ _)⟩,(br.alloc ler _).alloc (by simp) _⟩
end Go.Proofs.YtcldpfhpkbeaiadGreat
