/- A part of the proof of FsMounts. No condition of ours. -/
import Derived.Test.YtcldpfhpkbeaiadGreatFsMounts21
set_option maxRecDepth 20000
set_option maxHeartbeats 2000000
namespace Go.Proofs.YtcldpfhpkbeaiadGreat
section
open Go.RowKit Go.PlainAid
def wv(l:List Int)(k i:Nat):List Int:=if i <k then jc l i else []
def gp(b:Nat)(w:World)(l:List Int)(k:Nat):Prop:=b+1≤w.heap.size∧∃cs:Array Value,w.heap[b]?=some (.cells cs 41 (0,0))∧cs.size=l.length∧∀i,i <l.length→∃v,cs[i]?=some v∧af w (b+1) 1 v (wv l k i).length ((wv l k i).map (Value.int .i64))
theorem M5{l:List Int}{k i:Nat}(h:i≠k):wv l (k+1) i=wv l k i:=by
 unfold wv;by_cases h2:i <k
 ·rw [if_pos h2,if_pos (by omega)]
 ·rw [if_neg h2,if_neg (by omega)]
theorem M6(l:List Int)(k:Nat):wv l (k+1) k=jc l k:=by unfold wv;rw [if_pos (by omega)]
theorem Zg(l:List Int)(k:Nat):wv l k k=[]:=by unfold wv;rw [if_neg (by omega)]
theorem gp.skip{b:Nat}{w:World}{l:List Int}{k:Nat}(h:gp b w l k)(h0:jc l k=[]):gp b w l (k+1):=by
 obtain⟨hz,cs,h1,h2,h3⟩:=h;refine⟨hz,cs,h1,h2,fun i hi=>?_⟩;by_cases e:i=k
 ·subst e;have:=h3 i hi;rw [Zg]at this;rw [M6,h0];exact this
 ·rw [M5 e];exact h3 i hi
theorem gp.next{b:Nat}{w w5:World}{l:List Int}{k:Nat}{v:Value}(h:gp b w l k)(hk:k <l.length)(hb:Below w.heap.size w w5)(ho:af w5 w.heap.size 1 v (jc l k).length ((jc l k).map (Value.int .i64))):gp b (w5.setCell ⟨b,k,none⟩ v) l (k+1):=by
 obtain⟨hz,cs,h1,h2,h3⟩:=h;have h4:=(hb.block b (by omega)).trans h1;have h5:=hb.size;refine⟨by simp [World.setCell];omega,cs.setIfInBounds k v,b9 h4,by simp [h2],fun i hi=>?_⟩;by_cases e:i=k
 ·subst e;refine⟨v,by simp [h2,hi],?_⟩;rw [M6];exact(ho.more (by omega)).setOther (fun e=>by have h9:=(ho.lt b e).1;omega) _
 ·obtain⟨u,hu,h0⟩:=h3 i hi;refine⟨u,by rw [Array.getElem?_setIfInBounds_ne (fun k=>e k.symm)];exact hu,?_⟩;rw [M5 e];exact(h0.fresh_below hb).setOther (fun e=>Nat.not_succ_le_self b (h0.lt b e).1) _
theorem gp.start(w:World)(l:List Int):gp w.heap.size (w.alloc (.cells (Array.replicate l.length (.slice none 0 0)) 41)) l 0:=by refine⟨by simp,_,A_ w _,by simp,fun i hi=>⟨.slice none 0 0,by simp [hi],?_⟩⟩;unfold wv;rw [if_neg (by omega)];exact af.nil _ _ _
theorem gp.cell{b:Nat}{w:World}{l:List Int}{k i:Nat}(h:gp b w l k)(hi:i <l.length):∃v,w.cell? ⟨b,i,none⟩=some v∧af w (b+1) 1 v (wv l k i).length ((wv l k i).map (Value.int .i64)):=by obtain⟨hz,cs,h1,h2,h3⟩:=h;obtain⟨v,hv,ho⟩:=h3 i hi;exact⟨v,(aj h1 i).trans hv,ho⟩
theorem gp.free{b:Nat}{w:World}{l:List Int}{k:Nat}(h:gp b w l k)(i:Nat):w.frozen? ⟨b,i,none⟩=false:=by obtain⟨hz,cs,h1,h2,h3⟩:=h;exact ak h1 i
theorem gp.keep{b:Nat}{w w':World}{l:List Int}{k:Nat}(h:gp b w l k)(hb:Below w.heap.size w w'):gp b w' l k:=by obtain⟨hz,cs,h1,h2,h3⟩:=h;refine⟨Nat.le_trans hz hb.size,cs,(hb.block b (by omega)).trans h1,h2,fun i hi=>?_⟩;obtain⟨v,hv,ho⟩:=h3 i hi;exact⟨v,hv,ho.fresh_below hb⟩
theorem p0a:(Tryz.prog.info? 41).map (fun i=>(i.zero,i.size,i.bytes))=some (some (.slice none 0 0),1,24):=by kernel_rfl
theorem m0g(N:Nat)(hN:N≤320):∀W:World,(Instr.makeSlice 204 (.int .i64 (N:Int)) (.int .i64 (N:Int))).run Tryz.prog W= .ok (.slice (some ⟨W.heap.size,0,none⟩) N N) (W.alloc (.cells (Array.replicate N (.slice none 0 0)) 41)):=fun W=>by
 obtain⟨i,hi,h0⟩:=Option.map_eq_some_iff.1 p0a;simp only [Prod.mk.injEq]at h0;obtain⟨hz,hs,h1⟩:=h0;have:=run_make (P:=Tryz.prog) W 204 41 i (.slice none 0 0) Tryz.underlying204 hi hz .i64 .i64 N N (by omega) (by omega) (by rw [h1];omega) (by omega);rw [hs]at this;rw [this,Int.toNat_natCast]
 have e:madeCells (Value.slice none 0 0).cells (N*1)=Array.replicate N (.slice none 0 0):=by apply Array.ext';rw [Nat.mul_one,Array.toList_replicate];exact toList_madeCells_one _ _
 rw [e]
theorem Zq{l:List Int}{k:Nat}(h:l[k]?=some 0):jc l k=[]:=by have:=y8 (l:=l) (i:=k) (x:=0) h;exact List.eq_nil_of_length_eq_zero this
theorem Zr{l:List Int}{k x:Nat}(h:l[k]?=some (x:Int)):jc l k=fk (dp l k (l.getD k 0)) (x:Int).toNat:=by unfold jc;simp [h]
def Lk(l:List Int)(w:World)(e:Ending)(w':World):Prop:=∃b,e= .returned (.slice (some ⟨b,0,none⟩) l.length l.length)∧w.heap.size≤b∧gp b w' l l.length∧Below w.heap.size w w'
theorem Zh(A:Option Addr)(n c:Nat)(l:List Int)(w:World)(r:ab w w.heap.size A n c (fun z=>[.int .i64 z]) 1 l)(hcan:dt l=0):Calls Tryz.prog 125 #[.slice A n c] w (Lk l w):=by
 have hn:=r.len;obtain rfl:=hn;have hX:o8 l=lu l l.length:=by unfold o8;rw [if_pos hcan]
 have H:=h_ (Xg A l.length c l w r);rw [hcan,hX]at H;have hl320:=Xk hcan;have hc:=h_ (xa hcan);have hg:Hid (∀(i x:Nat),l[i]?=some (x:Int)→0 <x→0≤dp l i x∧dp l i x <2^x):=fun i x h h0=>Kk hcan h h0
 have hh:=h_ (m0g l.length hl320);clear hcan hX;go_enter Tryz.func125,Tryz.ntmps125
 go_wp2_with(first
  |(go_at_call 124;refine H.o.mono ?_;rintro e w1 ⟨A1,n1,c1,rfl,r1,h5⟩;have hd:=r1.len;rw [xj]at hd;subst hd;have hp:=hh.o w1)
  |fail)
 have he:=h_ (gp.start w1 l);have R:=h_ r;have R1:=h_ r1;have h3:=h5.size;clear hp r r1;go_loopw [6,7,18] (fun _ _ v18 wr=>∃i:Nat,i≤l.length∧v18= .int .i64 i∧gp w1.heap.size wr l i∧Below w1.heap.size w1 wr) (fun _ _ v18 _=>l.length- (intOf v18).toNat)
 case atStart=>exact⟨0,zl,rfl,he.o,br.alloc ler _⟩
 case round=>
  obtain⟨i,hi,rfl,hW,hb⟩:=hrel;clear he;by_cases hlt:i <l.length
  ·have e1:=gE hlt;obtain⟨x,h6⟩:∃x:Nat,l[i]=(x:Int):=⟨l[i].toNat,by have:=(hc.o _ (List.getElem_mem hlt)).1;omega⟩;have h7:=(hc.o _ (List.getElem_mem hlt)).2;rw [h6]at e1 h7;obtain⟨b1,o1,rfl,hx,hv⟩:=((R.o.below h5).below (hb.mono h3)).one e1;have i1:(i:Int) < (l.length:Int):=by omega
   by_cases h0:x=0
   ·subst h0;have HN:=h_ (hW.skip (Zq e1));have HB:=h_ hb;clear e1 h6 hW hb h7;go_wp2;go_roundw
    case rel=>exact⟨i+1,by omega,by go_num,HN.o,HB.o⟩
    case measure=>(simp [intOf];try omega)
   ·have hf:0 <x:=by omega
    have h9:l.getD i 0=(x:Int):=by simp [e1]
    have ec:=Xm l l.length i hlt;obtain⟨b2,o2,rfl,hw,hs⟩:=(R1.o.below hb).one ec;have ha:=hg.o i x e1 hf;have h4:=h_ (Zr e1);rw [h9]at hs h4
    have hr:(2:Int)^x≤32768:=by
     have:(2:Nat)^x≤2^15:=Nat.pow_le_pow_right (by omega) (by omega);have h2:((2^x:Nat):Int)≤((2^15:Nat):Int):=by exact_mod_cast this
     simpa using h2
    have HC:=h_ (t0h (dp l i x) x wr ha.1 (by omega) (by omega) (by omega));rw [←h4.o]at HC;have hz:Hid ((jc l i).length=x):=y8 e1;have HW:=h_ hW;have HB:=h_ hb;obtain⟨u,hm,hk⟩:=hW.cell hlt;have hj:=hW.free i;have d1:=dT (show(0:Int) < (x:Int) by omega);have hu:x≤15:=by omega
    generalize dp l i x=cc at*;clear e1 h6 hW hb h7 h9 ec ha hr h4 hk;go_wp2_with(go_at_call 151;refine HC.o.mono ?_;rintro e w5 ⟨A5,q5,c5,rfl,h8,h1⟩;have ht:=(h1.cell (p:=⟨w1.heap.size,i,none⟩) HW.o.1).trans hm;have hy:=(World.frozen?_of_block (a:=⟨w1.heap.size,i,none⟩) (h1.block _ HW.o.1)).trans hj);refine⟨⟨i+1,by omega,by go_num,?_,?_⟩,?_⟩
    ·have hq:q5=(jc l i).length:=by have:=h8.1;simp at this;omega
     subst hq;exact HW.o.next hlt h1 h8
    ·exact(HB.o.trans (h1.mono HB.o.size)).setCell ler _
    ·simp [intOf];omega
  ·obtain rfl:i=l.length:=by omega
   have i1:¬(l.length:Int) < (l.length:Int):=by omega
   have HW:=h_ hW;have HB:=h_ (h5.trans (hb.mono h3));clear hW hb;go_wp2;go_ret;exact⟨w1.heap.size,rfl,h3,HW.o,HB.o⟩
end
section
open Go.RowKit
section
variable {α:Type} {w:World} {B m c n k:Nat} {A:Option Addr} {enc:α→List Value} {xs:List α}
theorem ab.pre(h:ab w B A m c enc k xs)(hn:n≤m):ab w B A n c enc k (xs.take n):=
 ⟨by rw [List.length_take,h.len];omega,by have:=h.le;omega,h.top,fun i x hx=>by
   have hi:i <n:=by have:=(gS.1 hx).1;rw [List.length_take]at this;omega
   rw [List.getElem?_take,if_pos hi]at hx
   exact h.at_ i x hx⟩
theorem ab.suf{b o:Nat}(h:ab w B (some ⟨b,o,none⟩) m c enc k xs)(hn:n≤m):ab w B (some ⟨b,o+n*k,none⟩) (m-n) (c-n) enc k (xs.drop n):=
 ⟨by rw [List.length_drop,h.len],by have:=h.le;omega,by have:=h.top;omega,fun i x hx=>by
   rw [List.getElem?_drop]at hx
   obtain⟨b',o',e,hb,hc⟩:=h.at_ (n+i) x hx
   injection e with e
   injection e with e1 e2 _
   subst e1;subst e2
   refine⟨b,o+n*k,rfl,hb,fun j u hu=>?_⟩
   rw [show o+n*k+i*k+j=o+(n+i)*k+j by rw [Nat.add_mul];omega]
   exact hc j u hu⟩
theorem ab.none_left(h:ab w B A m c enc k xs)(hn:m≤n)(A':Option Addr):ab w B A' 0 0 enc k (xs.drop n):=
 ⟨by rw [List.length_drop,h.len];omega,Nat.le_refl _,zl,fun i x hx=>by rw [List.drop_eq_nil_of_le (by rw [h.len];exact hn)]at hx;simp at hx⟩
theorem ab.suf_any{b o:Nat}(h:ab w B (some ⟨b,o,none⟩) m c enc k xs)(hn:n≤m):ab w B (if c=n then some ⟨b,o,none⟩else some ⟨b,o+n*k,none⟩) (m-n) (c-n) enc k (xs.drop n):=by
 by_cases hc:c=n
 ·rw [if_pos hc];have hl:=h.le;have:=h.none_left (n:=n) (by omega) (some ⟨b,o,none⟩);rw [show m-n=0 by omega,show c-n=0 by omega];exact this
 ·rw [if_neg hc];exact h.suf hn
theorem ab.suf_opt(h:ab w B A m c enc 1 xs)(hn:n≤m):ab w B (if c=n then A else A.map (fun x=>x.add n)) (m-n) (c-n) enc 1 (xs.drop n):=by
 by_cases hm:m=n
 ·refine⟨by rw [List.length_drop,h.len],by have:=h.le;omega,by have:=h.top;omega,fun i x hx=>?_⟩;rw [List.drop_eq_nil_of_le (by rw [h.len];omega)]at hx;simp at hx
 ·obtain⟨b,o,e,_⟩:=h.at_ 0 _ (gE (by rw [h.len];omega));subst e;have:=h.suf_any hn;simpa [ms]using this
end
end
section
open Go.RowKit Go.PlainAid
def tz(l:List Int)(s:ByteArray)(a k j:Nat):Prop:=0 <k∧l[j]?=some (k:Int)∧dp l j k=cN s a k
def tw(l:List Int)(s:ByteArray)(a k j:Nat):Prop:=∃x:Nat,l[j]?=some (x:Int)∧k <x∧dp l j x/2^(x-k)=cN s a k
theorem Ut{l:List Int}{s:ByteArray}{a k:Nat}:Hit l (cN s a k) k↔∃j,tz l s a k j:=by
 constructor
 ·intro h;obtain⟨i,h1,h2⟩:=(vy h.1).1 h;exact⟨i,by have:=h.1;omega,h1,h2⟩
 ·rintro⟨i,h0,h1,h2⟩;exact(vy (by omega)).2 ⟨i,h1,h2⟩
theorem m0c{l:List Int}{s:ByteArray}{a k:Nat}(h:dt l=0):Mor l (cN s a k) k↔∃j,tw l s a k j:=by
 rw [m0b (xa h)];constructor
 ·rintro⟨i,x,h1,h2,h3⟩;exact⟨i,x,h1,h2,h3⟩
 ·rintro⟨i,x,h1,h2,h3⟩;exact⟨i,x,h1,h2,h3⟩
theorem v0u{l:List Int}(h:dt l=0){s:ByteArray}{a k j:Nat}(hi:l[j]?=some (k:Int))(h0:0 <k)(hf:a+k≤8*s.size):Bgn ((tbL s).drop a) (jc l j)↔tz l s a k j:=by
 have hw:=y8 hi;have hb:=v0x h (s:=s) (a:=a) (n:=k) hi h0 rfl hf;unfold Bgn tz;rw [hw];have hl:k≤((tbL s).drop a).length:=by rw [List.length_drop,px];omega
 exact⟨fun k=>⟨h0,hi,hb.1 k.1.symm⟩,fun k=>⟨(hb.2 k.2.2).symm,hl⟩⟩
theorem v0t{l:List Int}(h:dt l=0){s:ByteArray}{a k x j:Nat}(hi:l[j]?=some (x:Int))(h0:k <x)(hf:a+k≤8*s.size):Bgn (jc l j) (((tbL s).drop a).take k)↔tw l s a k j:=by
 have hw:=y8 hi;have hb:=v0w h (s:=s) (a:=a) (n:=k) hi h0 hf;have hl:(((tbL s).drop a).take k).length=k:=by rw [List.length_take,List.length_drop,px];omega
 unfold Bgn tw;rw [hl,hw];constructor
 ·rintro⟨h1,_⟩;exact⟨x,hi,h0,hb.1 h1⟩
 ·rintro⟨y,h1,h2,h3⟩;rw [hi]at h1;have e:x=y:=by injection h1 with h1;omega
  subst e;exact⟨hb.2 h3,by omega⟩
theorem Sx{l:List Int}{s:ByteArray}{a k x j:Nat}(hi:l[j]?=some (x:Int))(h0:¬k <x):¬tw l s a k j:=by
 rintro⟨y,h1,h2,h3⟩;rw [hi]at h1;have e:x=y:=by injection h1 with h1;omega
 omega
theorem p0x{l:List Int}{s:ByteArray}{a k x j:Nat}(hi:l[j]?=some (x:Int))(h0:¬(x=k∧0 <k)):¬tz l s a k j:=by
 rintro⟨h1,h2,h3⟩;rw [hi]at h2;have e:x=k:=by injection h2 with h2;omega
 exact h0 ⟨e,h1⟩
theorem gp.word{b:Nat}{w:World}{l:List Int}(h:gp b w l l.length){j x:Nat}(hi:l[j]?=some (x:Int)):∃A c,w.cell? ⟨b,j,none⟩=some (.slice A x c)∧ab w w.heap.size A x c (fun z=>[.int .i64 z]) 1 (jc l j):=by
 have hj:=(gS.1 hi).1;obtain⟨v,hc,ho⟩:=h.cell hj;have e:wv l l.length j=jc l j:=by unfold wv;rw [if_pos hj]
 rw [e,y8 hi]at ho;obtain⟨A,c,rfl⟩:=ho.form;exact⟨A,c,hc,C9 ho⟩
def SnI(l:List Int)(s:ByteArray)(a k i:Nat)(b:Bool):Prop:=(∀j,j <i→¬tz l s a k j)∧(b=true↔∃j,j <i∧tw l s a k j)
theorem SnI.start(l:List Int)(s:ByteArray)(a k:Nat):SnI l s a k 0 false:=⟨fun j h=>by omega,by simp⟩
theorem SnI.next{l:List Int}{s:ByteArray}{a k i:Nat}{b:Bool}(h:SnI l s a k i b)(h1:¬tz l s a k i)(b':Bool)(h2:b'=true↔b=true∨tw l s a k i):SnI l s a k (i+1) b':=by
 refine⟨fun j hj=>?_,h2.trans ?_⟩
 ·by_cases e:j=i
  ·subst e;exact h1
  ·exact h.1 j (by omega)
 ·rw [h.2];constructor
  ·rintro(⟨j,h3,h4⟩|h3)
   ·exact⟨j,by omega,h4⟩
   ·exact⟨i,by omega,h3⟩
  ·rintro⟨j,h3,h4⟩;by_cases e:j=i
   ·subst e;exact .inr h4
   ·exact .inl ⟨j,by omega,h4⟩
theorem SnI.done{l:List Int}{s:ByteArray}{a k:Nat}{b:Bool}(hc:dt l=0)(h:SnI l s a k l.length b):¬Hit l (cN s a k) k∧(b=true↔Mor l (cN s a k) k):=by
 refine⟨fun hh=>?_,h.2.trans ?_⟩
 ·obtain⟨j,hj⟩:=Ut.1 hh;exact h.1 j (gS.1 hj.2.1).1 hj
 ·rw [m0c hc];constructor
  ·rintro⟨j,_,h4⟩;exact⟨j,h4⟩
  ·rintro⟨j,h4⟩;obtain⟨x,h5,h6⟩:=h4;exact⟨j,(gS.1 h5).1,x,h5,h6⟩
def Es(l:List Int)(s:ByteArray)(a:Nat)(w:World)(e:Ending)(w':World):Prop:=(∃q,w'=w.drewN q)∧((∃x k:Nat,e= .returned (.tuple #[.int .i64 x,.int .i64 k,.int .i64 0])∧one l s a=((x:Int),((a+k:Nat):Int),0))∨∃z:Int,z≠0∧e= .returned (.tuple #[.int .i64 0,.int .i64 0,.int .i64 z])∧one l s a=(0,0,z))
theorem Od(l:List Int)(s:ByteArray)(a bw:Nat)(AB:Option Addr)(cB M:Nat)(w:World)(hW:gp bw w l l.length)(rB:ab w w.heap.size AB M cB (fun z=>[.int .i64 z]) 1 ((tbL s).drop a))(hcan:dt l=0)(ha:a≤8*s.size):Calls Tryz.prog 127 #[.slice (some ⟨bw,0,none⟩) l.length l.length,.slice AB M cB] w (Es l s a w):=by
 have hM:M=8*s.size-a:=by have:=rB.len;rw [List.length_drop,px]at this;omega
 have hu:=rB.le;have hl320:=Xk hcan;have HC:=h_ hcan;have hc:=h_ (xa hcan);have hg:=h_ hW;have hr:=h_ rB;have HM:=h_ hM;clear hcan hW rB hM;go_enter Tryz.func127,Tryz.ntmps127;go_wp2;go_loopw [7,8,9,10,15] (fun v7 _ _ _ _ wr=>∃k q:Nat,k≤15∧a+k≤8*s.size∧v7= .int .i64 k∧Hid (wr=w.drewN q)∧Hid (one l s a=jt l s a (16-k) k)) (fun v7 _ _ _ _ _=>16- (intOf v7).toNat)
 case atStart=>exact⟨0,0,by omega,by omega,rfl,rfl,rfl⟩
 case round=>
  obtain⟨k,q0,hk,h7,rfl,hn,HN⟩:=hrel;obtain⟨f,hf⟩:∃f,16-k=f+1:=⟨15-k,by omega⟩;rw [hf]at HN;have HF:=h_ hf;clear hf;have hj:k≤M:=by have:=HM.o;omega
  have ht:k≤cB:=by omega
  obtain⟨wo,rfl⟩:∃wo:World,wo=wr:=⟨_,rfl⟩;go_wp2;go_loopw [8,9,10,15] (fun v8 _ _ v15 wi=>∃(i q:Nat) (b:Bool),i≤l.length∧v15= .int .i64 i∧v8= .bool b∧Hid (wi=w.drewN q)∧Hid (SnI l s a k i b)) (fun _ _ _ v15 _=>l.length- (intOf v15).toNat)
  case atStart=>exact⟨0,q0,false,zl,rfl,rfl,hn.o,SnI.start _ _ _ _⟩
  case round=>
   obtain⟨i,q,b,hi,rfl,rfl,HW,HI⟩:=hrel;by_cases hlt:i <l.length
   ·have e1:=gE hlt;obtain⟨x,h8⟩:∃x:Nat,l[i]=(x:Int):=⟨l[i].toNat,by have:=(hc.o _ (List.getElem_mem hlt)).1;omega⟩;have hq:=(hc.o _ (List.getElem_mem hlt)).2;rw [h8]at e1 hq;have i1:=dT (show(i:Int) < (l.length:Int) by omega);obtain⟨Aj,cj,hd,rj⟩:=hg.o.word e1;have hv:wr.cell? ⟨bw,i,none⟩=some (.slice Aj x cj):=by rw [HW.o];exact hd
    have h1:Hid (ab wr w.heap.size Aj x cj (fun z=>[.int .i64 z]) 1 (jc l i)):=rj.keep (w':=wr) (fun p _=>by rw [HW.o];rfl);have h2:Hid (ab wr w.heap.size AB M cB (fun z=>[.int .i64 z]) 1 ((tbL s).drop a)):=hr.o.keep (w':=wr) (fun p _=>by rw [HW.o];rfl);have h3:=h_ e1;clear e1 h8 hd rj;by_cases hxk:x=k∧0 <k
    ·obtain⟨rfl,h6⟩:=hxk;have h4:=h_ (Yk _ _ AB M cB _ Aj x cj _ wr h2.o h1.o);have HH:=h_ (v0u HC.o h3.o h6 h7);have hs:=h_ (Sx (s:=s) (a:=a) h3.o (Nat.lt_irrefl x));have g1:=dT h6;have g2:=dF (Nat.lt_irrefl x);have g3:=dF (Int.lt_irrefl (x:Int));have g4:=dT (show(0:Int) < (x:Int) by omega);clear h1 h2;by_cases hh:tz l s a x i
     ·have F:Hid (one l s a=((i:Int),((a+x:Nat):Int),0)):=by simp only [Hid];rw [HN.o,Ic (Ut.2 ⟨i,hh⟩),Gb (by omega) hh.2.1 hh.2.2]
      have h0:=h_ hh;clear hh;go_wp2_with(go_at_call 152;refine h4.o.mono ?_;rintro e w' ⟨bb,q2,rfl,hb,rfl⟩;obtain rfl:bb=true:=hb.2 (HH.o.2 h0.o);clear hb);go_ret3;exact⟨⟨q+q2,by rw [HW.o,World.drewN_drewN]⟩,.inl ⟨i,x,rfl,F.o⟩⟩
     ·have F:Hid (SnI l s a x (i+1) b):=HI.o.next hh b (by simp [hs.o]);have h0:=h_ hh;clear hh;rcases b with _|_
      all_goals
       go_wp2_with(go_at_call 152;refine h4.o.mono ?_;rintro e w' ⟨bb,q2,rfl,hb,rfl⟩;obtain rfl:bb=false:=yw (hb.trans HH.o) h0.o;clear hb);go_roundw
       case rel=>exact⟨i+1,q+q2,_,by omega,by go_num,rfl,by simp only [Hid];rw [HW.o,World.drewN_drewN],F.o⟩
       case measure=>(simp [intOf];try omega)
    ·have h5:=h_ (p0x (s:=s) (a:=a) h3.o hxk);have hz:(x=0)∨(0 <x∧x≠k):=by omega
     rcases b with _|_
     ·by_cases hkx:k <x
      ·have hp:Hid (ab wr w.heap.size AB k cB (fun z=>[.int .i64 z]) 1 (((tbL s).drop a).take k)):=h2.o.pre hj;have h4:=h_ (Yk _ _ Aj x cj _ AB k cB _ wr h1.o hp.o);have HH:=h_ (v0t HC.o h3.o hkx h7);have g1:=dT (show 0 <x by omega);have g4:=dT (show(0:Int) < (x:Int) by omega);have g2:=dT hkx;have g3:=dT (show(k:Int) < (x:Int) by omega);have g5:((x:Int)==(k:Int))=false:=bF (by omega);have g6:(x==k)=false:=bF (by omega);have g7:(k:Int)≤(M:Int):=by omega
       have g8:(k:Int)≤(cB:Int):=by omega
       clear h1 h2 hxk hz;by_cases hh:tw l s a k i
       ·have F:Hid (SnI l s a k (i+1) true):=HI.o.next h5.o true (by simp [hh]);have h0:=h_ hh;clear hh;go_wp2_with(go_at_call 152;refine h4.o.mono ?_;rintro e w' ⟨bb,q2,rfl,hb,rfl⟩;obtain rfl:bb=true:=hb.2 (HH.o.2 h0.o);clear hb);go_roundw
        case rel=>exact⟨i+1,q+q2,_,by omega,by go_num,rfl,by simp only [Hid];rw [HW.o,World.drewN_drewN],F.o⟩
        case measure=>(simp [intOf];try omega)
       ·have F:Hid (SnI l s a k (i+1) false):=HI.o.next h5.o false (by simp [hh]);have h0:=h_ hh;clear hh;go_wp2_with(go_at_call 152;refine h4.o.mono ?_;rintro e w' ⟨bb,q2,rfl,hb,rfl⟩;obtain rfl:bb=false:=yw (hb.trans HH.o) h0.o;clear hb);go_roundw
        case rel=>exact⟨i+1,q+q2,_,by omega,by go_num,rfl,by simp only [Hid];rw [HW.o,World.drewN_drewN],F.o⟩
        case measure=>(simp [intOf];try omega)
      ·have F:Hid (SnI l s a k (i+1) false):=HI.o.next h5.o false (by simp [Sx h3.o hkx]);have g2:=dF hkx;have g3:=dF (show ¬(k:Int) < (x:Int) by omega);clear h1 h2 hxk;rcases hz with hz|⟨hz1,hz2⟩
       ·have g1:=dF (show ¬0 <x by omega);have g4:=dF (show ¬(0:Int) < (x:Int) by omega);clear hz;go_wp2;go_roundw
        case rel=>exact⟨i+1,q,_,by omega,by go_num,rfl,HW.o,F.o⟩
        case measure=>(simp [intOf];try omega)
       ·have g1:=dT hz1;have g4:=dT (show(0:Int) < (x:Int) by omega);have g5:((x:Int)==(k:Int))=false:=bF (by omega);have g6:(x==k)=false:=bF (by omega);clear hz1 hz2;go_wp2;go_roundw
        case rel=>exact⟨i+1,q,_,by omega,by go_num,rfl,HW.o,F.o⟩
        case measure=>(simp [intOf];try omega)
     ·have F:Hid (SnI l s a k (i+1) true):=HI.o.next h5.o true (by simp);clear h1 h2 hxk;rcases hz with hz|⟨hz1,hz2⟩
      ·have g1:=dF (show ¬0 <x by omega);have g4:=dF (show ¬(0:Int) < (x:Int) by omega);clear hz;go_wp2;go_roundw
       case rel=>exact⟨i+1,q,_,by omega,by go_num,rfl,HW.o,F.o⟩
       case measure=>(simp [intOf];try omega)
      ·have g1:=dT hz1;have g4:=dT (show(0:Int) < (x:Int) by omega);have g5:((x:Int)==(k:Int))=false:=bF (by omega);have g6:(x==k)=false:=bF (by omega);clear hz1 hz2;go_wp2;go_roundw
       case rel=>exact⟨i+1,q,_,by omega,by go_num,rfl,HW.o,F.o⟩
       case measure=>(simp [intOf];try omega)
   ·obtain rfl:i=l.length:=by omega
    have i1:=dF (show ¬(l.length:Int) < (l.length:Int) by omega);have HD:=h_ (HI.o.done HC.o);clear HI;rcases b with _|_
    ·have F:Hid (one l s a=(0,0,7)):=by simp only [Hid];rw [HN.o,yz HD.o.1 (fun h=>by have:=HD.o.2.2 h;cases this)]
     clear HD;go_wp2;go_ret3;exact⟨⟨q,HW.o⟩,.inr ⟨7,by decide,rfl,F.o⟩⟩
    ·have hm:=HD.o.2.1 rfl;by_cases hsh:k=M
     ·have F:Hid (one l s a=(0,0,3)):=by simp only [Hid];rw [HN.o,yx HD.o.1 hm (by have:=HM.o;omega)]
      have g5:((k:Int)==(M:Int))=true:=beq_iff_eq.2 (by omega);have g6:(k==M)=true:=beq_iff_eq.2 hsh;clear HD hm hsh;go_wp2;go_ret3;exact⟨⟨q,HW.o⟩,.inr ⟨3,by decide,rfl,F.o⟩⟩
     ·have F:Hid (one l s a=jt l s a (16- (k+1)) (k+1)):=by simp only [Hid];rw [HN.o,yy HD.o.1 hm (by have:=HM.o;omega),show 16- (k+1)=f by have:=HF.o;omega]
      have h9:=h_ (Cm hm);have g5:((k:Int)==(M:Int))=false:=bF (by omega);have g6:(k==M)=false:=bF hsh;have he:a+(k+1)≤8*s.size:=by have:=HM.o;omega
      clear HD hm hsh;go_wp2;refine⟨⟨k+1,q,by have:=h9.o;omega,he,by go_num,HW.o,F.o⟩,?_⟩;have:=h9.o;simp [intOf];omega
def tbN(s:ByteArray)(k:Nat):List Int:=(List.range k).map (tb s)
theorem b0b(s:ByteArray)(k:Nat):(tbN s (k+1)).map (Value.int .i64)=(tbN s k).map (Value.int .i64)++[.int .i64 (tb s k)]:=by simp [tbN,List.range_succ]
theorem Ld(n:Int):bits .and .i64 n 1=n%2:=by
 have h127:(BitVec.ofInt 64 1).toNat=2^1-1:=by decide
 have h0:(BitVec.ofInt 64 n&&&BitVec.ofInt 64 1).toNat=(n%((2^64:Nat):Int)).toNat%2^1:=by rw [BitVec.toNat_and,BitVec.toNat_ofInt,h127,Nat.and_two_pow_sub_one_eq_mod]
 show IntKind.i64.wrap ((BitVec.ofInt 64 n&&&BitVec.ofInt 64 1).toNat:Nat)=n%2;rw [h0,IntKind.wrap_i64];omega
theorem v0n(s:ByteArray)(w:World)(hs:s.size≤1048575):Calls Tryz.prog 126 #[.string s] w fun e w'=>∃A c,e= .returned (.slice A (8*s.size) c)∧ab w' w'.heap.size A (8*s.size) c (fun z=>[.int .i64 z]) 1 (tbL s)∧Below w.heap.size w w':=by
 have ha:=h_ (get_bt s);go_enter Tryz.func126,Tryz.ntmps126;go_wp2;go_loopw [3,4,5,8] (fun v3 _ _ v8 wr=>∃i:Nat,i≤s.size∧v8= .int .i64 i∧af wr w.heap.size 1 v3 (8*i) ((tbN s (8*i)).map (Value.int .i64))∧Below w.heap.size w wr) (fun _ _ _ v8 _=>s.size- (intOf v8).toNat)
 case atStart=>exact⟨0,zl,rfl,af.nil _ _ _,br⟩
 case round=>
  obtain⟨i,hi,rfl,h2,hb⟩:=hrel;by_cases hlt:i <s.size
  ·have i1:(i:Int) < (s.size:Int):=by omega
   obtain⟨wo,rfl⟩:∃wo:World,wo=wr:=⟨_,rfl⟩;go_wp2;go_loopw [3,5,11] (fun v3 _ v11 wi=>∃k:Nat,k≤8∧v11= .int .i64 k∧af wi w.heap.size 1 v3 (8*i+k) ((tbN s (8*i+k)).map (Value.int .i64))∧Below w.heap.size w wi) (fun _ _ v11 _=>8- (intOf v11).toNat)
   case atStart=>exact⟨0,by omega,rfl,h2,hb⟩
   case round=>
    obtain⟨k,hk,rfl,h3,hb'⟩:=hrel;obtain⟨AO,cO,rfl⟩:=h3.form;have he:=hb'.size;by_cases hkt:k <8
    ·have k1:(k:Int) <8:=by omega
     have hx:=ha.o i hlt;have h0:=bt_nonneg s i;have h1:=bt_le s i;have HN:=h_ (b0b s (8*i+k))
     have h8:tb s (8*i+k)=bt s i/2^k%2:=by unfold tb;rw [show(8*i+k)/8=i by omega,show(8*i+k)%8=k by omega]
     have h9:(0:Int) <2^k:=Int.pow_pos (by decide)
     have hc:bits .and .i64 (bt s i/2^k) 1=tb s (8*i+k):=by rw [h8];exact Ld _
     generalize tb s (8*i+k)=V at*;generalize hU:(tbN s (8*i+k)).map (Value.int .i64)=U at*;have HU:=h_ hU;have h4:=h_ hb';clear h8 h9 h2 hb hU hb';go_wp2_with(at_builtin;refine dx rfl rfl Tryz.underlying41 vx rfl (Nat.le_refl 1) h3 rfl he rfl rfl rfl ?_ ?_ ?_ ?_;simp [Value.oneCell'];(unfold maxLen;omega);omega;intro A3 c3 w3 h6 h7 hd);have hg:=h_ h6;have hf:=h_ (h7.below ler h4.o);clear h6 h7 hd h3 hc hx;refine⟨⟨k+1,by omega,by go_num,by rw [←Nat.add_assoc,HN.o];exact hg.o,hf.o⟩,?_⟩;simp [intOf];omega
    ·have k1:¬(k:Int) <8:=by omega
     have hh:k=8:=by omega
     have h5:Hid (af wr w.heap.size 1 (.slice AO (8*(i+1)) cO) (8*(i+1)) ((tbN s (8*(i+1))).map (Value.int .i64))):=by rw [show 8*(i+1)=8*i+k by omega];exact h3
     have h4:=h_ hb';have hq:8*i+k=8*(i+1):=by omega
     rw [hq]at*;clear h3 hb' h2 hb hq hh;go_wp2;refine⟨⟨i+1,by omega,by go_num,h5.o,h4.o⟩,?_⟩;simp [intOf];omega
  ·obtain rfl:i=s.size:=by omega
   obtain⟨AO,cO,rfl⟩:=h2.form;have k1:¬(s.size:Int) < (s.size:Int):=by omega
   have h5:Hid (ab wr wr.heap.size AO (8*s.size) cO (fun z=>[.int .i64 z]) 1 (tbL s)):=C9 h2;have h4:=h_ hb;clear h2 hb;go_wp2;go_ret;exact⟨AO,cO,rfl,h5.o,h4.o⟩
theorem sh{l:List Int}{s:ByteArray}{a x k:Nat}{w w':World}{e:Ending}(h:Es l s a w e w')(ho:one l s a=((x:Int),(k:Int),0)):∃q k':Nat,w'=w.drewN q∧e= .returned (.tuple #[.int .i64 x,.int .i64 k',.int .i64 0])∧k=a+k':=by
 obtain⟨⟨q,hq⟩,⟨x',k',he,h0⟩|⟨z,hz,he,h0⟩⟩:=h
 ·rw [ho]at h0;simp only [Prod.mk.injEq]at h0;obtain⟨h1,h2,_⟩:=h0;exact⟨q,k',hq,by rw [he,h1],by omega⟩
 ·rw [ho]at h0;simp only [Prod.mk.injEq]at h0;exact absurd h0.2.2.symm hz
theorem Bp{l:List Int}{s:ByteArray}{a:Nat}{z:Int}{w w':World}{e:Ending}(h:Es l s a w e w')(ho:one l s a=(0,0,z))(hz:z≠0):∃q:Nat,w'=w.drewN q∧e= .returned (.tuple #[.int .i64 0,.int .i64 0,.int .i64 z]):=by
 obtain⟨⟨q,hq⟩,⟨x',k',he,h0⟩|⟨z',h1,he,h0⟩⟩:=h
 ·rw [ho]at h0;simp only [Prod.mk.injEq]at h0;exact absurd h0.2.2 hz
 ·rw [ho]at h0;simp only [Prod.mk.injEq]at h0;exact⟨q,hq,by rw [he,h0.2.2]⟩
end
section
open Go.RowKit
theorem p0w{xs:List Int}{k:Nat}{x:Int}(h:xs[k]?=some x):jf (xs.drop k)=x+2*jf (xs.drop (k+1)):=by have hk:k <xs.length:=(gS.1 h).1;rw [List.drop_eq_getElem_cons hk];have:xs[k]=x:=(gS.1 h).2;simp only [jf,this]
theorem h0r{n:Nat}(h:n≤63):(2:Int)^n≤9223372036854775808:=by
 have:(2:Nat)^n≤2^63:=Nat.pow_le_pow_right (by omega) h;have h2:((2^n:Nat):Int)≤((2^63:Nat):Int):=by exact_mod_cast this
 simpa using h2
theorem k0g(A:Option Addr)(n c:Nat)(xs:List Int)(B:Nat)(w:World)(r:ab w B A n c (fun z=>[.int .i64 z]) 1 xs)(hb:∀x∈xs,0≤x∧x≤1)(hn:n≤64):Calls Tryz.prog 129 #[.slice A n c] w fun e w'=>e= .returned (.int .u64 (jf xs))∧w=w':=by
 have h2:=r.len;subst h2;have HB:=h_ hb;clear hb;go_enter Tryz.func129,Tryz.ntmps129;go_wp2;go_loop [3,4] (fun v3 v4=>∃i v:Int,-1≤i∧i <xs.length∧Hid (v=jf (xs.drop (i+1).toNat))∧v4= .int .i64 i∧v3= .int .u64 v) (fun _ v4=>(intOf v4+1).toNat)
 case atStart=>exact⟨xs.length-1,0,by omega,by omega,by simp only [Hid];rw [List.drop_eq_nil_of_le (by omega)];rfl,by go_num,rfl⟩
 case round=>
  obtain⟨i,v,h3,h5,hv,rfl,rfl⟩:=hrel;by_cases hi:0≤i
  ·obtain⟨k,rfl⟩:∃k:Nat,i=k:=⟨i.toNat,by omega⟩;have hk:k <xs.length:=by omega
   have e1:=gE hk;obtain⟨b,o,rfl,h7,hc⟩:=r.one e1;have hx:=HB.o xs[k] (List.getElem_mem hk);have hd:=p0w e1;generalize xs[k]=x at*;have h0:=Jj (xs.drop (k+1)) (fun y hy=>HB.o y (List.mem_of_mem_drop hy));rw [List.length_drop]at h0;have hp:=h0r (n:=xs.length- (k+1)) (by omega);have h1:v=jf (xs.drop (k+1)):=by rw [hv.o,show((k:Int)+1).toNat=k+1 by omega]
   rw [←h1]at hd h0;have h4:0≤v:=h0.1;have h6:v <9223372036854775808:=Int.lt_of_lt_of_le h0.2 hp;have HD:=h_ hd;clear hd h0 hp h1 hv e1;go_wp2;go_round
   case rel=>exact⟨(k:Int)-1,x+2*v,by omega,by omega,by simp only [Hid];rw [show((k:Int)-1+1).toNat=k by omega,HD.o],by go_num,lw (by omega)⟩
   case measure=>(simp [intOf];try omega)
  ·have F:Hid (v=jf xs):=by simp only [Hid];rw [hv.o,show(i+1).toNat=0 by omega];rfl
   go_wp2;go_ret;exact⟨ax F.o,rfl⟩
end
end Go.Proofs.YtcldpfhpkbeaiadGreat
