/- A part of the proof of FsMounts. No condition of ours. -/
import Derived.Test.YtcldpfhpkbeaiadGreatFsMounts10
import Derived.Lib.IndexAny
import Derived.Lib.UnsafeStr
namespace Go.Proofs.YtcldpfhpkbeaiadGreat
section
open Go.RowKit Go.PlainAid
def Hit(l:List Int)(c w:Int):Prop:=0 <w∧d7 w l≤c∧c <d7 w l+bp w l
def Mor(l:List Int)(c:Int)(w:Nat):Prop:=∃v:Nat,w <v∧v≤15∧0 <bp v l∧c*2^(v-w) <d7 v l+bp v l∧d7 v l < (c+1)*2^(v-w)
theorem Km(w:Int):∀(l:List Int) (k:Int),0≤k→k <bp w l→∃i:Nat,l[i]?=some w∧bp w (l.take i)=k
 | [],k,h0,h1=>by simp [bp]at h1;omega
 |a::r,k,h0,h1=>by
  rw [xg]at h1;by_cases ha:a=w
  ·subst ha;rw [if_pos rfl]at h1;by_cases hk:k=0
   ·subst hk;exact⟨0,rfl,by simp [bp]⟩
   ·obtain⟨i,hi,hc⟩:=Km a r (k-1) (by omega) (by omega);exact⟨i+1,hi,by rw [List.take_succ_cons,xg,if_pos rfl,hc];omega⟩
  ·rw [if_neg ha]at h1;obtain⟨i,hi,hc⟩:=Km w r k h0 (by omega);exact⟨i+1,hi,by rw [List.take_succ_cons,xg,if_neg ha,hc];omega⟩
theorem Ws{w:Int}{l:List Int}{i:Nat}(h:l[i]?=some w):bp w (l.take i) <bp w l:=by
 have h1:=qh w l i w h;rw [if_pos rfl]at h1
 have h2:bp w l=bp w (l.take (i+1))+bp w (l.drop (i+1)):=by
  conv=>lhs;rw [←List.take_append_drop (i+1) l]
  unfold bp;rw [List.map_append,List.sum_append]
 have:=(mr w (l.drop (i+1))).1;omega
theorem u0b{w:Int}{l:List Int}{i j:Nat}(hi:l[i]?=some w)(hj:l[j]?=some w)(h:bp w (l.take i)=bp w (l.take j)):i=j:=by
 have h0:∀ {a b:Nat},l[a]?=some w→a <b→bp w (l.take a) <bp w (l.take b):=fun {a b} ha hab=>by
  have h1:(l.take b)[a]?=some w:=by rw [List.getElem?_take,if_pos hab];exact ha
  have h2:=Ws h1;rw [List.take_take,show min a b=a by omega]at h2;exact h2
 rcases Nat.lt_trichotomy i j with h1|h1|h1
 ·have:=h0 hi h1;omega
 ·exact h1
 ·have:=h0 hj h1;omega
theorem vy{l:List Int}{c w:Int}(hw:0 <w):Hit l c w↔∃i:Nat,l[i]?=some w∧dp l i w=c:=by
 constructor
 ·rintro⟨_,h1,h2⟩;obtain⟨i,hi,hc⟩:=Km w l (c-d7 w l) (by omega) (by omega);exact⟨i,hi,by unfold dp;rw [if_pos hw,hc];omega⟩
 ·rintro⟨i,hi,hc⟩;unfold dp at hc;rw [if_pos hw]at hc;have h1:=Ws hi;have h2:=(mr w (l.take i)).1;exact⟨hw,by omega,by omega⟩
theorem t0x{l:List Int}{w:Int}{i j:Nat}(hw:0 <w)(hi:l[i]?=some w)(hj:l[j]?=some w)(h:dp l i w=dp l j w):i=j:=by unfold dp at h;rw [if_pos hw,if_pos hw]at h;exact u0b hi hj (by omega)
theorem Wq{l:List Int}{w:Int}{i:Nat}(hw:0 <w)(hi:l[i]?=some w):d7 w l≤dp l i w∧dp l i w <d7 w l+bp w l:=((vy hw).2 ⟨i,hi,rfl⟩).2
theorem m0b{l:List Int}{c:Int}{w:Nat}(hl:∀x∈l,0≤x∧x≤15):Mor l c w↔∃(i x:Nat),l[i]?=some (x:Int)∧w <x∧dp l i x/2^(x-w)=c:=by
 constructor
 ·rintro⟨v,h1,h2,h3,h4,h5⟩;have hv:(0:Int) < (v:Int):=by omega
  have hp:(0:Int) <2^(v-w):=Int.pow_pos (by decide);rw [Int.add_mul,Int.one_mul]at h5
  obtain⟨y,h7,h8,hd,h9⟩:∃y,d7 v l≤y∧y <d7 v l+bp v l∧c*2^(v-w)≤y∧y <c*2^(v-w)+2^(v-w):=by
   generalize c*2^(v-w)=m at*;by_cases h:d7 v l≤m
   ·exact⟨m,by omega,by omega,by omega,by omega⟩
   ·exact⟨d7 v l,by omega,by omega,by omega,by omega⟩
  obtain⟨i,hi,hc⟩:=(vy hv).1 ⟨hv,h7,h8⟩;refine⟨i,v,hi,h1,?_⟩;rw [hc];have h6:y=c*2^(v-w)+(y-c*2^(v-w)):=by omega
  rw [h6,Int.add_comm,Int.add_mul_ediv_right _ _ (by omega),Int.ediv_eq_zero_of_lt (by omega) (by omega)];omega
 ·rintro⟨i,x,hi,hx,hc⟩;have ha:=(hl x (List.mem_iff_getElem?.2 ⟨i,hi⟩)).2;have h0:(0:Int) < (x:Int):=by omega
  obtain⟨h1,h2⟩:=Wq h0 hi;have hp:(0:Int) <2^(x-w):=Int.pow_pos (by decide);have h3:=Int.emod_add_mul_ediv (dp l i x) (2^(x-w));have h4:=Int.emod_nonneg (dp l i x) (show(2:Int)^(x-w)≠0 by omega);have h5:=Int.emod_lt_of_pos (dp l i x) hp;rw [hc,Int.mul_comm]at h3;refine⟨x,hx,by omega,by omega,by omega,?_⟩;rw [Int.add_mul,Int.one_mul];omega
def cN(s:ByteArray)(a:Nat):Nat→Int
 |0=>0
 |w+1=>2*cN s a w+tb s (a+w)
theorem Eb(s:ByteArray)(a:Nat):∀w,0≤cN s a w∧cN s a w <2^w
 |0=>by simp [cN]
 |w+1=>by have h:=Eb s a w;have h2:=yc s (a+w);simp only [cN,Int.pow_succ];omega
theorem E9(c b:Int)(hb:0≤b∧b≤1):∀k,fk (2*c+b) (k+1)=fk c k++[b]
 |0=>by simp [fk];omega
 |k+1=>by have ih:=E9 c b hb k;have e:fk (2*c+b) (k+1+1)=((2*c+b)/2^(k+1)%2)::fk (2*c+b) (k+1):=rfl;have e2:fk c (k+1)=(c/2^k%2)::fk c k:=rfl;rw [e,ih,e2,List.cons_append];congr 2;rw [Int.pow_succ,Int.mul_comm (2^k) 2,←Int.ediv_ediv_of_nonneg (by decide)];congr 1;omega
theorem Yh(s:ByteArray)(a:Nat):∀w,a+w≤8*s.size→((tbL s).drop a).take w=fk (cN s a w) w:=by
 intro w h;rw [Ns s a w h];clear h;induction w with
 |zero=>rfl
 |succ w ih=>rw [List.range_succ,List.map_append,ih];show _=fk (2*cN s a w+tb s (a+w)) (w+1);rw [E9 _ _ (yc s _)];rfl
theorem Wh{n:Nat}:∀ {c d:Int},0≤c→c <2^n→0≤d→d <2^n→fk c n=fk d n→c=d:=by
 induction n with
 |zero=>intro c d h1 h2 h3 h4 _;simp at h2 h4;omega
 |succ n ih=>intro c d h1 h2 h3 h4 h;rw [show c=2*(c/2)+c%2 by omega,show d=2*(d/2)+d%2 by omega,E9 _ _ (by omega),E9 _ _ (by omega)]at h;obtain⟨h5,h6⟩:=List.append_inj' h rfl;rw [Int.pow_succ]at h2 h4;have:=ih (by omega) (by omega) (by omega) (by omega) h5;simp at h6;omega
theorem Wf(c:Int):∀(x n:Nat),n≤x→(fk c x).take n=fk (c/2^(x-n)) n
 |0,n,h=>by (obtain rfl:n=0:=(by omega));rfl
 |x+1,0,h=>rfl
 |x+1,n+1,h=>by have e:fk c (x+1)=(c/2^x%2)::fk c x:=rfl;have e2:fk (c/2^(x+1- (n+1))) (n+1)=(c/2^(x+1- (n+1))/2^n%2)::fk (c/2^(x+1- (n+1))) n:=rfl;rw [e,List.take_succ_cons,Wf c x n (by omega),e2,show x+1- (n+1)=x-n by omega,W0,show x-n+n=x by omega]
theorem Iu{l:List Int}(h:dt l=0){w:Nat}(hw0:0 <w)(hw:w≤15):d7 w l+bp w l≤2^w:=by
 have h1:=xa h
 have h0:gk l=0:=by
  by_cases hf:gk l=0
  ·exact hf
  ·rw [(Ae hf).1]at h;exact absurd h hf
 have hs:iz l≤32768:=by
  by_cases ho:32768 <gz l
  ·rw [(Kq h0 ho).1]at h;cases h
  ·have:gz l=iz l:=by
    unfold gk at h0;unfold gz;by_cases h3:320 <l.length
    ·rw [if_pos h3]at h0;cases h0
    ·rw [if_neg h3]at h0⊢;split at h0
     ·rename_i hh;rw [if_pos hh]
     ·cases h0
   omega
 have hk:=T9 w (by omega) (by omega) l h1;rw [show(15- (w:Int)).toNat=15-w by omega]at hk
 have e:(32768:Int)=2^(15-w)*2^w:=by rw [←Int.pow_add,show 15-w+w=15 by omega];rfl
 rw [e]at hs;have hp:(0:Int) <2^(15-w):=Int.pow_pos (by decide);exact Int.le_of_mul_le_mul_left (Int.le_trans hk hs) hp
def jc(l:List Int)(i:Nat):List Int:=fk (dp l i (l.getD i 0)) (l.getD i 0).toNat
theorem y8{l:List Int}{i x:Nat}(h:l[i]?=some (x:Int)):(jc l i).length=x:=by unfold jc;rw [Wg];simp [h]
theorem Kk{l:List Int}(h:dt l=0){i x:Nat}(hi:l[i]?=some (x:Int))(hx0:0 <x):0≤dp l i x∧dp l i x <2^x:=by have h0:=(xa h x (List.mem_iff_getElem?.2 ⟨i,hi⟩)).2;have h1:=Iu h hx0 (by omega);have h2:=Wq (by omega) hi;exact⟨Wr _ _ _,by omega⟩
theorem v0x{l:List Int}(h:dt l=0){s:ByteArray}{a n i x:Nat}(hi:l[i]?=some (x:Int))(hx0:0 <x)(hx:x=n)(hf:a+n≤8*s.size):jc l i=((tbL s).drop a).take n↔dp l i x=cN s a n:=by subst hx;rw [Yh s a x hf];unfold jc;rw [show l.getD i 0=(x:Int) by simp [hi],Int.toNat_natCast];have h1:=Kk h hi hx0;have h2:=Eb s a x;exact⟨fun e=>Wh h1.1 h1.2 h2.1 h2.2 e,fun e=>by rw [e]⟩
theorem v0w{l:List Int}(h:dt l=0){s:ByteArray}{a n i x:Nat}(hi:l[i]?=some (x:Int))(hx:n <x)(hf:a+n≤8*s.size):(jc l i).take n=((tbL s).drop a).take n↔dp l i x/2^(x-n)=cN s a n:=by
 rw [Yh s a n hf];unfold jc;rw [show l.getD i 0=(x:Int) by simp [hi],Int.toNat_natCast,Wf _ _ _ (by omega)];have h1:=Kk h hi (by omega);have h2:=Eb s a n;have hp:(0:Int) <2^(x-n):=Int.pow_pos (by decide)
 have h3:dp l i x/2^(x-n) <2^n:=by apply Int.ediv_lt_of_lt_mul hp;rw [←Int.pow_add,show n+(x-n)=x by omega];exact h1.2
 exact⟨fun e=>Wh (Int.ediv_nonneg h1.1 (by omega)) h3 h2.1 h2.2 e,fun e=>by rw [e]⟩
end
section
open Go.RowKit Go.PlainAid
open Classical in
noncomputable def sgn(l:List Int)(c w:Int):Int:=if h:∃i:Nat,l[i]?=some w∧dp l i w=c then(Classical.choose h:Nat)else 0
theorem Gb{l:List Int}{c w:Int}{i:Nat}(hw:0 <w)(h1:l[i]?=some w)(h2:dp l i w=c):sgn l c w=i:=by have h:∃i:Nat,l[i]?=some w∧dp l i w=c:=⟨i,h1,h2⟩;unfold sgn;rw [dif_pos h];have h3:=Classical.choose_spec h;rw [t0x hw h3.1 h1 (h3.2.trans h2.symm)]
open Classical in
noncomputable def jt(l:List Int)(s:ByteArray)(a:Nat):Nat→Nat→Int×Int×Int
 |0,_=>(0,0,7)
 |f+1,w=>if Hit l (cN s a w) w then(sgn l (cN s a w) w,((a+w:Nat):Int),0)else if ¬Mor l (cN s a w) w then(0,0,7)else if 8*s.size≤a+w then(0,0,3)else jt l s a f (w+1)
noncomputable def one(l:List Int)(s:ByteArray)(a:Nat):Int×Int×Int:=jt l s a 16 0
theorem Ic{l:List Int}{s:ByteArray}{a f w:Nat}(h:Hit l (cN s a w) w):jt l s a (f+1) w=(sgn l (cN s a w) w,((a+w:Nat):Int),0):=by simp only [jt];rw [if_pos h]
theorem yz{l:List Int}{s:ByteArray}{a f w:Nat}(h:¬Hit l (cN s a w) w)(h2:¬Mor l (cN s a w) w):jt l s a (f+1) w=(0,0,7):=by simp only [jt];rw [if_neg h,if_pos h2]
theorem yx{l:List Int}{s:ByteArray}{a f w:Nat}(h:¬Hit l (cN s a w) w)(h2:Mor l (cN s a w) w)(h3:8*s.size≤a+w):jt l s a (f+1) w=(0,0,3):=by simp only [jt];rw [if_neg h,if_neg (fun k=>k h2),if_pos h3]
theorem yy{l:List Int}{s:ByteArray}{a f w:Nat}(h:¬Hit l (cN s a w) w)(h2:Mor l (cN s a w) w)(h3:¬8*s.size≤a+w):jt l s a (f+1) w=jt l s a f (w+1):=by simp only [jt];rw [if_neg h,if_neg (fun k=>k h2),if_neg h3]
theorem Cm{l:List Int}{c:Int}{w:Nat}(h:Mor l c w):w <15:=by obtain⟨v,h1,h2,_⟩:=h;omega
def Z4(l:List Int)(s:ByteArray)(a:Nat)(r:Int×Int×Int):Prop:=(∃x k:Nat,r=((x:Int),(k:Int),0)∧x <l.length∧a≤k∧k≤8*s.size)∨r=(0,0,7)∨r=(0,0,3)
theorem Rw(l:List Int)(s:ByteArray)(a:Nat):∀f w,a+w≤8*s.size→Z4 l s a (jt l s a f w)
 |0,w,_=>.inr (.inl rfl)
 |f+1,w,hw=>by
  by_cases h:Hit l (cN s a w) w
  ·rw [Ic h];obtain⟨i,h1,h2⟩:=(vy h.1).1 h;rw [Gb h.1 h1 h2];exact .inl ⟨i,a+w,rfl,(gS.1 h1).1,by omega,hw⟩
  ·by_cases h2:Mor l (cN s a w) w
   ·by_cases h3:8*s.size≤a+w
    ·rw [yx h h2 h3];exact .inr (.inr rfl)
    ·rw [yy h h2 h3];exact Rw l s a f (w+1) (by omega)
   ·rw [yz h h2];exact .inr (.inl rfl)
theorem Cc(l:List Int)(s:ByteArray)(a:Nat)(h:a≤8*s.size):Z4 l s a (one l s a):=Rw l s a 16 0 h
end
section
open Go.RowKit Go.PlainAid
def rrL(s:ByteArray)(k:Nat):Nat→List Int
 |0=>[]
 |m+1=>rrL s k m++List.replicate (bt s (k+m)%16+1).toNat (bt s (k+m)/16)
def mu(s:ByteArray)(k m:Nat):Prop:=0 <m∧bt s (k+m)/16=bt s (k+m-1)/16∧bt s (k+m-1)%16 <15
open Classical in
noncomputable def rr(s:ByteArray)(k n:Nat):Nat→Nat→Int×Nat
 |0,m=>if(rrL s k m).length=n then(0,m)else(3,m)
 |f+1,m=>if(rrL s k m).length=n then(0,m)else if mu s k m∨n < (rrL s k (m+1)).length then(4,m)else rr s k n f (m+1)
section
variable {s:ByteArray} {k n:Nat}
theorem e0u{f m:Nat}(h:(rrL s k m).length=n):rr s k n f m=(0,m):=by cases f<;>(unfold rr;rw [if_pos h])
theorem e0r{m:Nat}(h:(rrL s k m).length≠n):rr s k n 0 m=(3,m):=by unfold rr;rw [if_neg h]
theorem e0t{f m:Nat}(h:(rrL s k m).length≠n)(hb:mu s k m∨n < (rrL s k (m+1)).length):rr s k n (f+1) m=(4,m):=by rw [rr,if_neg h,if_pos hb]
theorem e0s{f m:Nat}(h:(rrL s k m).length≠n)(hb:¬(mu s k m∨n < (rrL s k (m+1)).length)):rr s k n (f+1) m=rr s k n f (m+1):=by rw [rr,if_neg h,if_neg hb]
end
noncomputable def rrR(s:ByteArray):Int×Nat:=rr s (ck (bt s) s.size).toNat (c9 (bt s) s.size).toNat (s.size- (ck (bt s) s.size).toNat) 0
noncomputable def rrE(s:ByteArray):Int:=if ce (bt s) s.size≠0 then ce (bt s) s.size else if 320 <c9 (bt s) s.size then 2 else(rrR s).1
noncomputable def ct(s:ByteArray):Int:=if rrE s=0 then ck (bt s) s.size+(rrR s).2 else 0
noncomputable def rrX(s:ByteArray):List Int:=if rrE s=0 then rrL s (ck (bt s) s.size).toNat (rrR s).2 else []
theorem Gm{s:ByteArray}(h:ce (bt s) s.size≠0):rrE s=ce (bt s) s.size∧ct s=0∧rrX s=[]:=by
 have e:rrE s=ce (bt s) s.size:=by unfold rrE;rw [if_pos h]
 have:rrE s≠0:=by rw [e];exact h
 exact⟨e,by unfold ct;rw [if_neg this],by unfold rrX;rw [if_neg this]⟩
theorem Pe{s:ByteArray}(h:ce (bt s) s.size=0)(h2:320 <c9 (bt s) s.size):rrE s=2∧ct s=0∧rrX s=[]:=by
 have e:rrE s=2:=by unfold rrE;rw [if_neg (by simp [h]),if_pos h2]
 have:rrE s≠0:=by rw [e];decide
 exact⟨e,by unfold ct;rw [if_neg this],by unfold rrX;rw [if_neg this]⟩
theorem Pf{s:ByteArray}(h:ce (bt s) s.size=0)(h2:¬320 <c9 (bt s) s.size){e:Int}{m:Nat}(he:e≠0)(hr:rrR s=(e,m)):rrE s=e∧ct s=0∧rrX s=[]:=by
 have e':rrE s=e:=by unfold rrE;rw [if_neg (by simp [h]),if_neg h2,hr]
 have:rrE s≠0:=by rw [e'];exact he
 exact⟨e',by unfold ct;rw [if_neg this],by unfold rrX;rw [if_neg this]⟩
theorem Pc{s:ByteArray}(h:ce (bt s) s.size=0)(h2:¬320 <c9 (bt s) s.size){m:Nat}(hr:rrR s=(0,m)):rrE s=0∧ct s=ck (bt s) s.size+m∧rrX s=rrL s (ck (bt s) s.size).toNat m:=by
 have e':rrE s=0:=by unfold rrE;rw [if_neg (by simp [h]),if_neg h2,hr]
 exact⟨e',by unfold ct;rw [if_pos e',hr],by unfold rrX;rw [if_pos e',hr]⟩
theorem zv{s:ByteArray}(h:ce (bt s) s.size=0):1≤ck (bt s) s.size∧ck (bt s) s.size≤s.size:=by
 have hk:=wj (bt s) s.size;have:ck (bt s) s.size=(cd (bt s) s.size:Int)+1:=by unfold ck;rw [if_pos h]
 have h0:cd (bt s) s.size≠s.size:=fun e=>by have:=(De e).1;omega
 omega
end
section
open Go.RowKit
def bc.isByte(m:bc):Prop:=m.Len=0∧m.Dist=0
def bc.isCopy(m:bc):Prop:=3≤m.Len∧m.Len≤66∧1≤m.Dist∧m.Byte=0
instance (m:bc):Decidable m.isByte:=by unfold bc.isByte;exact inferInstance
instance (m:bc):Decidable m.isCopy:=by unfold bc.isCopy;exact inferInstance
def iq(m:bc):Int:=if m.isByte∨m.isCopy then 0 else 4
def j9(out:List Int)(dist n:Nat):List Int:=(List.range n).map fun i=>out.getD (out.length-dist+i%dist) 0
def more(out:List Int)(m:bc):List Int:=if m.Len=0 then [m.Byte]else j9 out m.Dist.toNat m.Len.toNat
def cr(out:List Int):List bc→List Int×Int
 | []=>(out,0)
 |m::r=>if iq m≠0 then([],iq m)else if out.length <m.Dist then([],8)else if 512 <out.length+(more out m).length then([],2)else cr (out++more out m) r
theorem o7(out:List Int)(d n:Nat):(j9 out d n).length=n:=by simp [j9]
theorem Wp(out:List Int)(d n:Nat):j9 out d (n+1)=j9 out d n++[out.getD (out.length-d+n%d) 0]:=by simp [j9,List.range_succ]
theorem t0t(out:List Int)(d n:Nat)(h0:0 <d)(hd:d≤out.length):(out++j9 out d n)[out.length+n-d]?=some (out.getD (out.length-d+n%d) 0):=by
 by_cases h:n <d
 ·rw [Nat.mod_eq_of_lt h,List.getElem?_append_left (by omega),show out.length+n-d=out.length-d+n by omega,gD];rw [gE (by omega)];rfl
 ·rw [List.getElem?_append_right (by omega),show out.length+n-d-out.length=n-d by omega];simp only [j9,List.getElem?_map];rw [List.getElem?_range (by omega)];simp only [Option.map_some];rw [show n%d=(n-d)%d by rw [←Nat.mod_eq_sub_mod (by omega)]]
theorem Vk{O:List Int}{m:bc}{r:List bc}(h:iq m=0)(hd:O.length <m.Dist):cr O (m::r)=([],8):=by rw [cr,if_neg (by omega),if_pos hd]
theorem Dm{O:List Int}{m:bc}{r:List bc}(h:iq m=0)(hd:¬(O.length:Int) <m.Dist)(hl:512 <O.length+(more O m).length):cr O (m::r)=([],2):=by rw [cr,if_neg (by omega),if_neg hd,if_pos hl]
theorem Dn{O:List Int}{m:bc}{r:List bc}(h:iq m=0)(hd:¬(O.length:Int) <m.Dist)(hl:¬512 <O.length+(more O m).length):cr O (m::r)=cr (O++more O m) r:=by rw [cr,if_neg (by omega),if_neg hd,if_neg hl]
theorem vm(O:List Int)(d b:Int):more O ⟨0,d,b⟩=[b]:=by simp [more]
theorem Cj(O:List Int)(a d b:Int)(h:a≠0):more O ⟨a,d,b⟩=j9 O d.toNat a.toNat:=by simp [more,h]
theorem T7{a d b:Int}(h:iq ⟨a,d,b⟩=0):(a=0∧d=0)∨(3≤a∧a≤66∧1≤d∧b=0):=by
 by_cases c:(bc.mk a d b).isByte∨(bc.mk a d b).isCopy
 ·exact c
 ·unfold iq at h;rw [if_neg c]at h;simp at h
end
section
open Go.RowKit Go.PlainAid
abbrev aw(s:ByteArray)(k:Nat):ByteArray:=s.extract k s.size
def gOk(s:ByteArray):Prop:=ce (bt s) s.size=0∧c9 (bt s) s.size≤512
def fm(s:ByteArray)(want:Nat):Prop:=rrE s=0∧(rrX s).length=want∧dt (rrX s)=0
open Classical in
noncomputable def mkR(la lb:List Int)(s:ByteArray):Nat→Nat→List bc→Option (List bc×Nat)
 |0,a,L=>some (L,a)
 |k+1,a,L=>
  if(one la s a).2.2=0 then
   if(one la s a).1 <256 then mkR la lb s k (one la s a).2.1.toNat (L++[⟨0,0,(one la s a).1⟩])
   else if(one lb s (one la s a).2.1.toNat).2.2=0∧(one lb s (one la s a).2.1.toNat).2.1+(one lb s (one la s a).2.1.toNat).1≤8*s.size then
    mkR la lb s k ((one lb s (one la s a).2.1.toNat).2.1.toNat+(one lb s (one la s a).2.1.toNat).1.toNat) (L++[⟨(one la s a).1-253,2^(one lb s (one la s a).2.1.toNat).1.toNat+tn s (one lb s (one la s a).2.1.toNat).2.1.toNat (one lb s (one la s a).2.1.toNat).1.toNat,0⟩])
   else none
  else none
theorem m0s{la lb:List Int}{s:ByteArray}{k a:Nat}{L:List bc}{z:Int}(h:one la s a=(0,0,z))(hz:z≠0):mkR la lb s (k+1) a L=none:=by simp only [mkR];rw [h];rw [if_neg hz]
theorem m0q{la lb:List Int}{s:ByteArray}{k a x a1:Nat}{L:List bc}(h:one la s a=((x:Int),(a1:Int),0))(hx:x <256):mkR la lb s (k+1) a L=mkR la lb s k a1 (L++[⟨0,0,x⟩]):=by simp only [mkR];rw [h];simp only [if_true];rw [if_pos (by omega),Int.toNat_natCast]
theorem m0r{la lb:List Int}{s:ByteArray}{k a x a1:Nat}{L:List bc}{z:Int}(h:one la s a=((x:Int),(a1:Int),0))(hx:¬x <256)(h2:one lb s a1=(0,0,z))(hz:z≠0):mkR la lb s (k+1) a L=none:=by simp only [mkR];rw [h];simp only [if_true,Int.toNat_natCast];rw [if_neg (by omega),h2];rw [if_neg (fun k=>hz k.1)]
theorem m0n{la lb:List Int}{s:ByteArray}{k a x a1 y a2:Nat}{L:List bc}(h:one la s a=((x:Int),(a1:Int),0))(hx:¬x <256)(h2:one lb s a1=((y:Int),(a2:Int),0))(hf:8*s.size <a2+y):mkR la lb s (k+1) a L=none:=by simp only [mkR];rw [h];simp only [if_true,Int.toNat_natCast];rw [if_neg (by omega),h2];rw [if_neg (fun k=>by have:=k.2;simp only at this;omega)]
theorem m0p{la lb:List Int}{s:ByteArray}{k a x a1 y a2:Nat}{L:List bc}(h:one la s a=((x:Int),(a1:Int),0))(hx:¬x <256)(h2:one lb s a1=((y:Int),(a2:Int),0))(hf:¬8*s.size <a2+y):mkR la lb s (k+1) a L=mkR la lb s k (a2+y) (L++[⟨(x:Int)-253,2^y+tn s a2 y,0⟩]):=by simp only [mkR];rw [h];simp only [if_true,Int.toNat_natCast];rw [if_neg (by omega),h2];simp only [Int.toNat_natCast];rw [if_pos ⟨trivial,by omega⟩]
def lr(s:ByteArray)(a:Nat):Prop:=8*s.size-a <8∧tn s a (8*s.size-a)=0
open Classical in
noncomputable def gy(s:ByteArray)(m:Nat):Option (List bc):=
 if fm s 320 then
  if fm (aw s (ct s).toNat) 9 then
   match mkR (rrX s) (rrX (aw s (ct s).toNat)) (aw (aw s (ct s).toNat) (ct (aw s (ct s).toNat)).toNat) m 0 []with
   |none=>none
   |some (L,a)=>if lr (aw (aw s (ct s).toNat) (ct (aw s (ct s).toNat)).toNat) a then some L else none
  else none
 else none
theorem T6{s:ByteArray}{m:Nat}(h:¬fm s 320):gy s m=none:=by unfold gy;rw [if_neg h]
theorem T5{s s2:ByteArray}{m:Nat}(h:fm s 320)(e2:s2=aw s (ct s).toNat)(h2:¬fm s2 9):gy s m=none:=by subst e2;unfold gy;rw [if_pos h,if_neg h2]
theorem T4{s s2 s3:ByteArray}{m:Nat}(h:fm s 320)(e2:s2=aw s (ct s).toNat)(h2:fm s2 9)(e3:s3=aw s2 (ct s2).toNat)(h3:mkR (rrX s) (rrX s2) s3 m 0 []=none):gy s m=none:=by subst e2;subst e3;unfold gy;rw [if_pos h,if_pos h2,h3]
theorem Is{s s2 s3:ByteArray}{m a:Nat}{L:List bc}(h:fm s 320)(e2:s2=aw s (ct s).toNat)(h2:fm s2 9)(e3:s3=aw s2 (ct s2).toNat)(h3:mkR (rrX s) (rrX s2) s3 m 0 []=some (L,a))(h4:¬lr s3 a):gy s m=none:=by subst e2;subst e3;unfold gy;rw [if_pos h,if_pos h2,h3];simp only;rw [if_neg h4]
theorem T3{s s2 s3:ByteArray}{m a:Nat}{L:List bc}(h:fm s 320)(e2:s2=aw s (ct s).toNat)(h2:fm s2 9)(e3:s3=aw s2 (ct s2).toNat)(h3:mkR (rrX s) (rrX s2) s3 m 0 []=some (L,a))(h4:lr s3 a):gy s m=some L:=by subst e2;subst e3;unfold gy;rw [if_pos h,if_pos h2,h3];simp only;rw [if_pos h4]
theorem Pd(s:ByteArray)(k n:Nat):∀f m,(rr s k n f m).2≤m+f
 |0,m=>by unfold rr;split<;>exact Nat.le_refl _
 |f+1,m=>by
  rw [rr];split
  ·exact Nat.le_add_right _ _
  ·split
   ·exact Nat.le_add_right _ _
   ·have:=Pd s k n f (m+1);omega
theorem Pg{s:ByteArray}(h:rrE s=0):0≤ct s∧ct s≤s.size:=by
 have hg:ce (bt s) s.size=0:=by
  by_cases e:ce (bt s) s.size=0
  ·exact e
  ·have:=(Gm e).1;rw [h]at this;omega
 have h1:=zv hg;have h2:=Pd s (ck (bt s) s.size).toNat (c9 (bt s) s.size).toNat (s.size- (ck (bt s) s.size).toNat) 0;unfold ct;rw [if_pos h];have h3:(rrR s).2≤0+(s.size- (ck (bt s) s.size).toNat):=h2;omega
def zt(n:Nat):ByteArray:=strOfNums (List.replicate n 0)
theorem Fc(n:Nat):(zt n).size=n:=by unfold zt;rw [strOfNums_size,List.length_replicate]
noncomputable def gV(s:ByteArray):Nat:=(c9 (bt s) s.size).toNat
noncomputable def gR(s:ByteArray):ByteArray:=aw s (ck (bt s) s.size).toNat
open Classical in
noncomputable def gm(k:Int)(n:Nat)(rest:ByteArray):Option ByteArray:=
 if k=0 then(if rest.size=0 then some (zt n)else none)
 else if k=1 then some rest
 else if k=2 then(if gOk rest then(match gy (gR rest) (gV rest)with|none=>none|some L=>if(cr [] L).2=0 then some (strOfNums (cr [] L).1)else none)else none)
 else none
open Classical in
noncomputable def jd(t:ByteArray):ByteArray×Int:=
 if t.size=0 then(ByteArray.empty,4)else
 if gOk (aw t 1)then
  (match gm (bt t 0) (gV (aw t 1)) (gR (aw t 1))with
  |none=>(ByteArray.empty,4)
  |some o=>if o.size=gV (aw t 1)then(o,0)else(ByteArray.empty,4))
 else(ByteArray.empty,4)
theorem Rm{t:ByteArray}(h:t.size=0):jd t=(ByteArray.empty,4):=by unfold jd;rw [if_pos h]
theorem I9{t:ByteArray}(h:t.size≠0)(h1:¬gOk (aw t 1)):jd t=(ByteArray.empty,4):=by unfold jd;rw [if_neg h,if_neg h1]
theorem Ia{t:ByteArray}(h:t.size≠0)(h1:gOk (aw t 1))(h2:gm (bt t 0) (gV (aw t 1)) (gR (aw t 1))=none):jd t=(ByteArray.empty,4):=by unfold jd;rw [if_neg h,if_pos h1,h2]
theorem Rj{t o:ByteArray}(h:t.size≠0)(h1:gOk (aw t 1))(h2:gm (bt t 0) (gV (aw t 1)) (gR (aw t 1))=some o)(h3:o.size=gV (aw t 1)):jd t=(o,0):=by unfold jd;rw [if_neg h,if_pos h1,h2];simp only;rw [if_pos h3]
theorem Rk{t o:ByteArray}(h:t.size≠0)(h1:gOk (aw t 1))(h2:gm (bt t 0) (gV (aw t 1)) (gR (aw t 1))=some o)(h3:o.size≠gV (aw t 1)):jd t=(ByteArray.empty,4):=by unfold jd;rw [if_neg h,if_pos h1,h2];simp only;rw [if_neg h3]
theorem Y7{n:Nat}{r:ByteArray}(h:r.size=0):gm 0 n r=some (zt n):=by unfold gm;rw [if_pos rfl,if_pos h]
theorem Y6{n:Nat}{r:ByteArray}(h:r.size≠0):gm 0 n r=none:=by unfold gm;rw [if_pos rfl,if_neg h]
theorem Eg{n:Nat}{r:ByteArray}:gm 1 n r=some r:=by unfold gm;rw [if_neg (by decide),if_pos rfl]
theorem Y2{n:Nat}{r:ByteArray}(h:¬gOk r):gm 2 n r=none:=by unfold gm;rw [if_neg (by decide),if_neg (by decide),if_pos rfl,if_neg h]
theorem Y3{n:Nat}{r:ByteArray}(h:gOk r)(h2:gy (gR r) (gV r)=none):gm 2 n r=none:=by unfold gm;rw [if_neg (by decide),if_neg (by decide),if_pos rfl,if_pos h,h2]
theorem Y4{n:Nat}{r:ByteArray}{L:List bc}(h:gOk r)(h2:gy (gR r) (gV r)=some L)(h3:(cr [] L).2≠0):gm 2 n r=none:=by unfold gm;rw [if_neg (by decide),if_neg (by decide),if_pos rfl,if_pos h,h2];simp only;rw [if_neg h3]
theorem Y5{n:Nat}{r:ByteArray}{L:List bc}(h:gOk r)(h2:gy (gR r) (gV r)=some L)(h3:(cr [] L).2=0):gm 2 n r=some (strOfNums (cr [] L).1):=by unfold gm;rw [if_neg (by decide),if_neg (by decide),if_pos rfl,if_pos h,h2];simp only;rw [if_pos h3]
theorem Y1{k:Int}{n:Nat}{r:ByteArray}(h:2 <k):gm k n r=none:=by unfold gm;rw [if_neg (by omega),if_neg (by omega),if_neg (by omega)]
theorem Dg{s:ByteArray}:c9 (bt s) s.size=(gV s:Int):=by
 have:0≤c9 (bt s) s.size:=by unfold c9;split;exact(mx _ _).1;omega
 unfold gV;omega
theorem Df{s:ByteArray}(h:gOk s):gV s≤512:=by have h1:=h.2;rw [Dg]at h1;omega
theorem ry(s:ByteArray)(k:Nat):(aw s k).size≤s.size:=by simp [aw,ByteArray.size_extract]
theorem wk(s:ByteArray):(gR s).size≤s.size:=ry s _
theorem t0m(s:ByteArray)(a k:Nat):aw (aw s a) k=s.extract (a+k) s.size:=by apply ByteArray.ext;simp only [aw,ByteArray.data_extract,ByteArray.size_extract];rw [Array.extract_extract];congr 1;omega
def bl(s:ByteArray):List UInt8:=s.data.toList
def mkS(l:List UInt8):ByteArray:=⟨⟨l⟩⟩
theorem zh(s:ByteArray):mkS (bl s)=s:=rfl
theorem Kz(l:List UInt8):bl (mkS l)=l:=rfl
theorem vq(l:List UInt8):(mkS l).size=l.length:=rfl
theorem m9(s:ByteArray):(bl s).length=s.size:=rfl
theorem m0m(l m:List UInt8):mkS l++mkS m=mkS (l++m):=by apply ByteArray.ext;simp [mkS,ByteArray.data_append]
theorem Ip(l:List UInt8)(s:ByteArray):mkS l++s=mkS (l++bl s):=by rw [←m0m,zh]
theorem In(l:List UInt8)(i j:Nat):(mkS l).extract i j=mkS ((l.drop i).take (j-i)):=by apply ByteArray.ext;apply Array.ext';simp [mkS,ByteArray.data_extract,List.extract_eq_take_drop]
theorem Dk(s:ByteArray)(i j:Nat):s.extract i j=mkS (((bl s).drop i).take (j-i)):=by conv=>lhs;rw [←zh s];rw [In]
theorem yh{s:ByteArray}(h:s.size=0):s=mkS []:=by rw [←zh s];have:bl s=[]:=List.eq_nil_of_length_eq_zero h;rw [this]
def wid(sz i:Nat):Nat:=min 512 (sz-512*i)
def npt(sz:Nat):Nat:=(sz+511)/512
def zer(n:Nat):List UInt8:=List.replicate n 0
theorem M0(n:Nat):(zer n).length=n:=by simp [zer]
theorem Mf(sz i:Nat):wid sz i≤512:=by unfold wid;omega
def tq(sz i:Nat)(p:ByteArray):Prop:=p.size=0∨p.size=wid sz i
def kt(sz:Nat)(ps:List ByteArray):Prop:=ps.length=npt sz∧∀i p,ps[i]?=some p→tq sz i p
open Classical in
noncomputable def fy(sz:Int)(ps:List ByteArray):Int:=if sz <0∨4096 <sz then 2 else if kt sz.toNat ps then 0 else 4
def ptB(sz i:Nat)(p:ByteArray):List UInt8:=if p.size=0 then zer (wid sz i)else bl p
def whB(sz:Nat):Nat→List ByteArray→List UInt8
 |_,[]=>[]
 |i,p::ps=>ptB sz i p++whB sz (i+1) ps
theorem h0m{sz i:Nat}{p:ByteArray}(h:tq sz i p):(ptB sz i p).length=wid sz i:=by
 unfold ptB;split
 ·exact M0 _
 ·rename_i h0;rcases h with h|h
  ·exact absurd h h0
  ·rw [m9];exact h
theorem Fn{sz:Nat}:∀ {i:Nat} {ps:List ByteArray},(∀j p,ps[j]?=some p→tq sz (i+j) p)→i+ps.length=npt sz→(whB sz i ps).length=sz-512*i
 |i,[],_,h=>by simp [whB,npt]at*;omega
 |i,p::ps,hp,h=>by have h1:=h0m (hp 0 p rfl);have h2:=Fn (i:=i+1) (ps:=ps) (fun j q hq=>by have:=hp (j+1) q (by simpa using hq);rwa [show i+(j+1)=i+1+j by omega]at this) (by simp at h;omega);rw [Nat.add_zero]at h1;simp only [whB,List.length_append,h1,h2];simp only [List.length_cons]at h;unfold wid;unfold npt at h;omega
theorem t0e{sz:Int}{ps:List ByteArray}(h:sz <0∨4096 <sz):fy sz ps=2:=if_pos h
theorem t0d{sz:Int}{ps:List ByteArray}(h:¬(sz <0∨4096 <sz))(h2:kt sz.toNat ps):fy sz ps=0:=by unfold fy;rw [if_neg h,if_pos h2]
theorem t0f{sz:Int}{ps:List ByteArray}(h:¬(sz <0∨4096 <sz))(h2:¬kt sz.toNat ps):fy sz ps=4:=by unfold fy;rw [if_neg h,if_neg h2]
theorem t0c{sz:Int}{ps:List ByteArray}(h:fy sz ps=0):(0≤sz∧sz≤4096)∧kt sz.toNat ps:=by
 unfold fy at h;split at h
 ·cases h
 ·split at h
  ·exact⟨by omega,by assumption⟩
  ·cases h
theorem Bb{sz:Nat}{ps:List ByteArray}(h:kt sz ps):(whB sz 0 ps).length=sz:=by have:=Fn (sz:=sz) (i:=0) (ps:=ps) (fun j p hp=>by rw [Nat.zero_add];exact h.2 j p hp) (by rw [Nat.zero_add];exact h.1);simpa using this
theorem Mk{sz:Nat}:∀(i:Nat) (ps:List ByteArray) (p:ByteArray),whB sz i (ps++[p])=whB sz i ps++ptB sz (i+ps.length) p
 |i,[],p=>by simp [whB]
 |i,q::ps,p=>by simp only [List.cons_append,whB,Mk (i+1) ps p,List.length_cons,List.append_assoc];rw [show i+1+ps.length=i+(ps.length+1) by omega]
def Aq(s:ByteArray):Prop:=1≤s.size∧s.size≤12∧s≠⟨#[46]⟩∧s≠⟨#[46,46]⟩∧∀i,i <s.size→bt s i≠0∧bt s i≠47
open Classical in
noncomputable def je(s:ByteArray):Int:=if Aq s then 0 else 11
theorem Sp{s:ByteArray}(h:Aq s):je s=0:=if_pos h
theorem nk{s:ByteArray}(h:¬Aq s):je s=11:=if_neg h
theorem Sm{s:ByteArray}(h:je s=0):Aq s:=by
 unfold je at h;split at h
 ·assumption
 ·cases h
theorem Sn(s:ByteArray):je s=0∨je s=11:=by unfold je;split<;>simp
noncomputable def gh(x:ay):Int:=if je x.Name≠0 then 11 else if x.Ino <0∨47 <x.Ino then 1 else 0
theorem Vp{x:ay}(h:je x.Name≠0):gh x=11:=if_pos h
theorem Vq{x:ay}(h:je x.Name=0)(h2:x.Ino <0∨47 <x.Ino):gh x=1:=by unfold gh;rw [if_neg (by rw [h];decide),if_pos h2]
theorem Vn{x:ay}(h:je x.Name=0)(h2:¬(x.Ino <0∨47 <x.Ino)):gh x=0:=by unfold gh;rw [if_neg (by rw [h];decide),if_neg h2]
theorem K3{x:ay}(h:gh x=0):je x.Name=0∧0≤x.Ino∧x.Ino≤47:=by
 unfold gh at h;by_cases a:je x.Name=0
 ·rw [if_neg (by rw [a];decide)]at h;by_cases b:x.Ino <0∨47 <x.Ino
  ·rw [if_pos b]at h;cases h
  ·exact⟨a,by omega,by omega⟩
 ·rw [if_pos a]at h;cases h
theorem K4{x:ay}(h:gh x=0):1≤x.Name.size∧x.Name.size≤12:=by have:=Sm (K3 h).1;exact⟨this.1,this.2.1⟩
def ltS(a b:ByteArray):Bool:=Op.bytesLess a.toList b.toList
theorem Ye:∀a b:List UInt8,(Op.bytesLess a b||a==b)= !Op.bytesLess b a
 | [],[]=>rfl
 | [],_::_=>rfl
 |_::_,[]=>rfl
 |a::x,b::y=>by
  simp only [Op.bytesLess];have ih:=Ye x y;by_cases h1:a <b
  ·have h2:¬b <a:=by have:=UInt8.lt_iff_toNat_lt.1 h1;intro h;have:=UInt8.lt_iff_toNat_lt.1 h;omega
   have h3:(b==a)=false:=bF fun e=>by rw [e]at h1;exact absurd (UInt8.lt_iff_toNat_lt.1 h1) (by omega)
   simp [h1,h2,h3]
  ·by_cases h2:b <a
   ·have h3:(a==b)=false:=bF fun e=>by rw [e]at h2;exact absurd (UInt8.lt_iff_toNat_lt.1 h2) (by omega)
    have h4:¬a=b:=beq_eq_false_iff_ne.1 h3;simp [h1,h2,h3]
   ·have e:a=b:=UInt8.toNat_inj.1 (by have h5:¬a.toNat <b.toNat:=fun h=>h1 (UInt8.lt_iff_toNat_lt.2 h);have h6:¬b.toNat <a.toNat:=fun h=>h2 (UInt8.lt_iff_toNat_lt.2 h);omega);subst e;rw [List.cons_beq_cons];simp only [dF h1,Bool.false_or,beq_self_eq_true,Bool.true_and];exact ih
theorem n0a{a b:ByteArray}:(Op.bytesLess a.toList b.toList||a.toList==b.toList)= !ltS b a:=Ye _ _
theorem n0b{b:ByteArray}(h:b.size≠0):ltS ⟨#[]⟩ b=true:=by
 unfold ltS;rw [Go.Lib.toList_data,Go.Lib.toList_data];cases e:b.data.toList with
 |nil=>exact absurd (show b.size=0 by rw [←m9];unfold bl;rw [e];rfl) h
 |cons=>rfl
noncomputable def jn(last:ByteArray):List ay→Int
 | []=>0
 |x::r=>if gh x≠0 then gh x else if ltS last x.Name then jn x.Name r else 4
noncomputable def eu(l:List ay):Int:=if 24 <l.length then 2 else jn ⟨#[]⟩ l
theorem Kd{l:List ay}(h:24 <l.length):eu l=2:=if_pos h
theorem Ke{l:List ay}(h:¬24 <l.length):eu l=jn ⟨#[]⟩ l:=if_neg h
def sv(l:List ay):Nat→ByteArray
 |0=>⟨#[]⟩
 |i+1=>(l[i]?.map (·.Name)).getD ⟨#[]⟩
theorem Iy{l:List ay}{i:Nat}{x:ay}(h:l[i]?=some x):sv l (i+1)=x.Name:=by simp [sv,h]
theorem Kg{α:Type}{l:List α}{i:Nat}{x:α}(h:l[i]?=some x):l.drop i=x::l.drop (i+1):=by obtain⟨hi,e⟩:=gS.1 h;rw [List.drop_eq_getElem_cons hi,e]
theorem Wb{last:ByteArray}{l:List ay}{i:Nat}{x:ay}(h:l[i]?=some x)(hx:gh x≠0):jn last (l.drop i)=gh x:=by rw [Kg h,jn,if_pos hx]
theorem W6{last:ByteArray}{l:List ay}{i:Nat}{x:ay}(h:l[i]?=some x)(hx:gh x=0)(hl:ltS last x.Name=false):jn last (l.drop i)=4:=by rw [Kg h,jn,if_neg (by rw [hx];decide),hl];rfl
theorem Kf{last:ByteArray}{l:List ay}{i:Nat}{x:ay}(h:l[i]?=some x)(hx:gh x=0)(hl:ltS last x.Name=true):jn last (l.drop i)=jn x.Name (l.drop (i+1)):=by rw [Kg h,jn,if_neg (by rw [hx];decide),hl,if_pos rfl]
theorem W9{last:ByteArray}{l:List ay}:jn last (l.drop l.length)=0:=by rw [List.drop_length];rfl
theorem Wc{last:ByteArray}:∀ {l:List ay},jn last l=0→∀x∈l,gh x=0
 | [],_,x,hx=>by cases hx
 |y::r,h,x,hx=>by
  unfold jn at h;by_cases a:gh y=0
  ·rw [if_neg (by rw [a];decide)]at h;by_cases b:ltS last y.Name=true
   ·rw [if_pos b]at h;rcases List.mem_cons.1 hx with rfl|hx
    ·exact a
    ·exact Wc h x hx
   ·rw [if_neg b]at h;cases h
  ·rw [if_pos a]at h;exact absurd h a
theorem s0u{l:List ay}(h:eu l=0):l.length≤24∧∀x∈l,gh x=0:=by
 unfold eu at h;by_cases a:24 <l.length
 ·rw [if_pos a]at h;cases h
 ·rw [if_neg a]at h;exact⟨by omega,Wc h⟩
theorem Lb(s:ByteArray):Lib.containsAny s.data.toList [47,0]=true↔∃i,i <s.size∧(bt s i=0∨bt s i=47):=by
 have h5:∀l:List UInt8,Lib.containsAny l [47,0]=true↔∃b∈l,b=0∨b=47:=by
  intro l;induction l with
  |nil=>simp [Lib.containsAny,Lib.indexAny]
  |cons b l ih=>
   unfold Lib.containsAny at ih⊢;unfold Lib.indexAny;by_cases h:([47,0]:List UInt8).contains b=true
   ·rw [if_pos h];have hb:b=0∨b=47:=by simp at h;exact h.symm
    simp [hb]
   ·rw [if_neg h];have hb:¬(b=0∨b=47):=fun e=>h (by rcases e with rfl|rfl<;>decide)
    have hg:=Lib.indexAny_ge [47,0] l;by_cases h2:(Lib.indexAny l [47,0]== -1)=true
    ·rw [if_pos h2];have h3:Lib.indexAny l [47,0]= -1:=by simpa using h2
     rw [h3]at ih;simp at ih;simp [hb];intro x hx;exact ih x hx
    ·rw [if_neg h2];have h3:Lib.indexAny l [47,0]≠ -1:=by simpa using h2
     have h4:0≤Lib.indexAny l [47,0]:=by omega
     obtain⟨c,hc,h1⟩:=ih.1 (dT h4);rw [dT (by omega)];simp only [true_iff];exact⟨c,List.mem_cons_of_mem _ hc,h1⟩
 rw [h5];constructor
 ·rintro⟨b,hb,h⟩;obtain⟨i,hi,e⟩:=List.getElem_of_mem hb;have h0:i <s.size:=by simpa using hi
  refine⟨i,h0,?_⟩;rw [←get_bt s i h0];have e2:s[i]'h0=b:=by rw [←e];rfl
  rw [e2];rcases h with rfl|rfl
  ·exact .inl rfl
  ·exact .inr rfl
 ·rintro⟨i,hi,h⟩;rw [←get_bt s i hi]at h;refine⟨s[i]'hi,?_,?_⟩
  ·have:s.data.toList[i]'(by simpa using hi)=s[i]'hi:=rfl;rw [←this];exact List.getElem_mem _
  ·rcases h with h|h
   ·left;exact UInt8.toNat_inj.1 (by show _=0;omega)
   ·right;exact UInt8.toNat_inj.1 (by show _=47;omega)
def xc(x:ay):List UInt8:=UInt8.ofNat x.Name.size::(bl x.Name++[UInt8.ofNat x.Ino.toNat])
def j7(l:List ay):List UInt8:=l.flatMap xc
theorem s0a(x:ay):(xc x).length=x.Name.size+2:=by unfold xc;rw [List.length_cons,List.length_append,m9];rfl
theorem s0x{l:List ay}{i:Nat}{x:ay}(h:l[i]?=some x):j7 (l.take (i+1))=j7 (l.take i)++xc x:=by obtain⟨hi,rfl⟩:=gS.1 h;unfold j7;rw [List.take_succ_eq_append_getElem hi,List.flatMap_append];simp only [List.flatMap_cons,List.flatMap_nil,List.append_nil]
theorem We:∀(l:List ay),(∀x∈l,x.Name.size≤12)→(j7 l).length≤14*l.length
 | [],_=>by simp [j7]
 |x::r,h=>by have ih:=We r (fun y hy=>h y (List.mem_cons_of_mem _ hy));have:=h x (List.mem_cons_self ..);unfold j7 at*;rw [List.flatMap_cons,List.length_append,s0a,List.length_cons];omega
theorem s0w{l:List ay}{i:Nat}(h:∀x∈l,x.Name.size≤12)(hl:l.length≤24):(j7 (l.take i)).length≤336:=by have:=We (l.take i) (fun x hx=>h x (List.mem_of_mem_take hx));rw [List.length_take]at this;omega
theorem s0y{n:Nat}(h:n <256):strOfNums (ir 1 (n:Int))=mkS [UInt8.ofNat n]:=by
 have e:ir 1 (n:Int)=[(n:Int)]:=by unfold ir;rw [if_pos ⟨by decide,by decide⟩];show [(n:Int)/256^0%256]=_;congr 1;simp;omega
 rw [e];apply ByteArray.ext;simp [strOfNums,mkS]
noncomputable def E7(l:List ay):ByteArray:=if eu l=0 then mkS (j7 l)else mkS []
theorem W5{l:List ay}(h:eu l=0):E7 l=mkS (j7 l):=if_pos h
theorem s0v{l:List ay}(h:eu l≠0):E7 l=mkS []:=if_neg h
end
end Go.Proofs.YtcldpfhpkbeaiadGreat
