/- A part of the proof of FsMounts. No condition of ours. -/
import Derived.Test.YtcldpfhpkbeaiadGreatFsMounts27
set_option maxRecDepth 100000
set_option maxHeartbeats 4000000
namespace Go.Proofs.YtcldpfhpkbeaiadGreat
section
open Go.RowKit
def As(ok:Prop)(cs:List ByteArray)(ws:List ae)(p:aa)(w:World)(e:Ending)(w':World):Prop:=
 ∃z:Int×Int×Int×Option Addr×Nat×Nat×Int,e= .returned (.tuple #[.agg #[.int .i64 z.1,.int .i64 z.2.1,.int .i64 z.2.2.1,.slice z.2.2.2.1 z.2.2.2.2.1 z.2.2.2.2.2.1],.int .i64 z.2.2.2.2.2.2])∧IdQ ok cs ws p w w' z.1 z.2.2.1 z.2.2.2.1 z.2.2.2.2.1 z.2.2.2.2.2.1 z.2.2.2.2.2.2
def LdM(ok:Prop)(cs:List ByteArray)(ws:List ae)(p:aa)(w wa:World)(s s':Value)(wx:World):Prop:=IdI 67 ok cs ws p wa s s' wx∧wx.heap[w.heap.size]?=some (.cells bf 67 (0,0))
theorem n0t{ok:Prop}{cs:List ByteArray}{ws:List ae}{p:aa}{w wa w2:World}{K G S E:Int}{D:Option Addr}{q d:Nat}(h:IdQ ok cs ws p wa.drew w2 K S D q d E)(hk:∀W,Below wa.heap.size wa W→W.heap[w.heap.size]?=some (.cells bf 67 (0,0))):LdM ok cs ws p w wa (.pointer (some ⟨w2.heap.size,0,none⟩)) (.int .i64 E) (w2.alloc (.cells #[.int .i64 K,.int .i64 G,.int .i64 S,.slice D q d] 67)):=by have h2:IdQ ok cs ws p wa w2 K S D q d E:=h.early br.drew;exact⟨p0s h2,hk _ (h2.1.alloc h2.1.size _)⟩
theorem n0s{ok:Prop}{cs:List ByteArray}{ws:List ae}{p:aa}{w wa w2:World}{K G S E:Int}{D:Option Addr}{q d:Nat}(hM:w2.heap[wa.heap.size]?=some (.cells bf 67 (0,0)))(h:IdQ ok cs ws p (wa.alloc (.cells bf 67)).drew w2 K S D q d E)(hk:∀W,Below wa.heap.size wa W→W.heap[w.heap.size]?=some (.cells bf 67 (0,0))):LdM ok cs ws p w wa (.pointer (some ⟨wa.heap.size,0,none⟩)) (.int .i64 E) ((((w2.setCell ⟨wa.heap.size,0,none⟩ (.int .i64 K)).setCell ⟨wa.heap.size,1,none⟩ (.int .i64 G)).setCell ⟨wa.heap.size,2,none⟩ (.int .i64 S)).setCell ⟨wa.heap.size,3,none⟩ (.slice D q d)):=by have h3:=Uk (G:=G) rfl hM h;obtain⟨_,_,_,_,_,_,_,_,_,_,_,_,h4⟩:=h3;exact⟨Uk (G:=G) rfl hM h,hk _ h4.o.1⟩
theorem vt(b:Nat)(cs:List ByteArray)(ws:List ae)(xs:List aa)(gs fr:List Int)(os:List OpD)(v:FsV)(k:Nat)(pc pn g:Int)(w:World)(h:FsT b cs ws xs gs fr os v w)(hd:au cs ws=0)(hp:xs[k]?=some ⟨pc,pn⟩)(hg:gs[k]?=some g):Calls Tryz.prog 29 #[.pointer (some ⟨b,0,none⟩),.int .i64 k] w (As (pc≠0∧fw cs ws k ⟨pc,pn⟩ g) cs ws ⟨pc,pn⟩ w):=by
 obtain⟨wa,h4⟩:∃wa,wa=w.alloc (.cells bf 67):=⟨_,rfl⟩;have ha:FsT b cs ws xs gs fr os v wa:=by rw [h4];exact h.alloc _
 have hq:Below w.heap.size w wa:=by rw [h4];exact br.alloc ler _
 have h2:wa.heap[w.heap.size]?=some (.cells bf 67 (0,0)):=by rw [h4];exact A_ w _
 have h9:wa.heap.size=w.heap.size+1:=by rw [h4];simp
 have ht:=ha.ra.len;have i1:(k:Int) < (v.an:Int):=by have:=(gS.1 hp).1;omega
 obtain⟨bm,om,hA,hx,hn⟩:=ha.ra.at_ k _ hp;have hs:wa.cell? ⟨bm,om+k*2,none⟩=some (.int .i64 pc):=by simpa using hn 0 _ rfl
 have c0:=rc0 ha.box;have c1:=rc1 ha.box;have c2:=rc2 ha.box;have c3:=rc3 ha.box;have hh:wa.cell? ⟨b,2,none⟩=some (.slice (some ⟨bm,om,none⟩) v.an v.ac):=by rw [c2,hA]
 have l0:=rc0 h2;have l1:=rc1 h2;have l2:=rc2 h2;have l3:=rc3 h2;have l4:=ak h2 0;have l5:=ak h2 1;have l6:=ak h2 2;have l7:=ak h2 3;have HA:=h_ ha;have h5:=h_ hq;have h7:=h_ h2;have hy:=h_ h9;have HD:=h_ hd;have HP:=h_ hp;have HG:=h_ hg;have hj:=h_ hA;clear c2 hA h ha hq h2 h9 hd hp hg hn ht;subst h4;go_enter Tryz.func29,Tryz.ntmps29;by_cases h0:pc=0
 ·subst h0;go_wp2;refine bodyPost_ret (cv rfl _ _ w.heap.size 67 bf (0,0) _ rfl ?_ Tryz.underlying67 rfl du) rfl ?_
  ·first|exact h7.o|exact b9 (j:=3) (v:=.slice none 0 0) (b9 (j:=2) (v:=.int .i64 0) (b9 (j:=1) (v:=.int .i64 0) (b9 (j:=0) (v:=.int .i64 0) h7.o)))
  ·refine⟨(0,0,0,none,0,0,18),rfl,?_,(fun a ha=>by cases ha),.inr ⟨fun h=>h.1 rfl,rfl,rfl,rfl,rfl,rfl,rfl⟩⟩
   first|exact h5.o|exact(((h5.o.setCell (p:=⟨w.heap.size,0,none⟩) ler _).setCell (p:=⟨w.heap.size,1,none⟩) ler _).setCell (p:=⟨w.heap.size,2,none⟩) ler _).setCell (p:=⟨w.heap.size,3,none⟩) ler _
 ·have g0:¬((k:Int) <0):=by omega
  have g1:¬v.an≤k:=by omega
  have g2:(pc==0)=false:=bF h0;go_wp2_with fail;clear g0 g1 g2 hs l0 l1 l2 l3 l4 l5 l6 l7;have c2:(w.alloc (.cells bf 67)).cell? ⟨b,2,none⟩=some (.slice v.aA v.an v.ac):=by rw [hj.o];exact hh
  clear hh hx;generalize w.alloc (.cells bf 67)=wa at*;obtain⟨ok,hc⟩:∃ok,ok=fw cs ws k ⟨pc,pn⟩ g:=⟨_,rfl⟩
  have he:Hid (∀W,Below wa.heap.size wa W→Calls Tryz.prog 55 #[.agg #[.slice v.cA v.cn v.cc,.slice v.wA v.wn v.wc],.agg #[.slice v.aA v.an v.ac,.slice v.gA v.gn v.gc],.int .i64 k] W fun e w'=>∃z:Int×Int×Int×Option Addr×Nat×Nat×ByteArray×Int,e= .returned (.tuple #[.agg #[.int .i64 z.1,.int .i64 z.2.1,.int .i64 z.2.2.1,.slice z.2.2.2.1 z.2.2.2.2.1 z.2.2.2.2.2.1],.string z.2.2.2.2.2.2.1,.int .i64 z.2.2.2.2.2.2.2])∧IdQ ok cs ws ⟨pc,pn⟩ W w' z.1 z.2.2.1 z.2.2.2.1 z.2.2.2.2.1 z.2.2.2.2.2.1 z.2.2.2.2.2.2.2):=fun W hW=>by have h1:=HA.o.below hW;rw [hc];exact p0c (Mz _ _ _ cs _ _ _ ws _ _ _ xs _ _ _ gs k pc pn g W h1.rc h1.rw' h1.ra h1.rg HD.o HP.o HG.o)
  have hu:Hid (∀e w',As ok cs ws ⟨pc,pn⟩ w e w'→As (pc≠0∧fw cs ws k ⟨pc,pn⟩ g) cs ws ⟨pc,pn⟩ w e w'):=fun e w' h=>by
   have e1:(pc≠0∧fw cs ws k ⟨pc,pn⟩ g)=ok:=by rw [hc];exact propext ⟨fun h=>h.2,fun h=>⟨h0,h⟩⟩
   rw [e1];exact h
  have hv:Hid (Below wa.heap.size wa (wa.alloc (.cells bf 67)).drew):=(br.alloc ler _).drew;have hw:Hid (wa.heap.size < (wa.alloc (.cells bf 67)).drew.heap.size):=by simp only [Hid];show wa.heap.size < (wa.alloc (.cells bf 67)).heap.size;simp
  have y0:(wa.alloc (.cells bf 67)).cell? ⟨b,0,none⟩=_:=aj (HA.o.alloc _).box 0;have y1:(wa.alloc (.cells bf 67)).cell? ⟨b,1,none⟩=_:=aj (HA.o.alloc _).box 1;have y2:(wa.alloc (.cells bf 67)).cell? ⟨b,2,none⟩=_:=aj (HA.o.alloc _).box 2;have y3:(wa.alloc (.cells bf 67)).cell? ⟨b,3,none⟩=_:=aj (HA.o.alloc _).box 3;have hf:Hid (∀W,Below wa.heap.size wa W→W.heap[w.heap.size]?=some (.cells bf 67 (0,0))):=fun W hW=>ah h7.o (ag h7.o) hW
  clear hc h0 HD HP HG hj i1;go_cut [6,8] (fun s6 s8 wx=>LdM ok cs ws ⟨pc,pn⟩ w wa s6 s8 wx)
  case first=>
   go_region_law(first
    |(refine eh rfl 55 rfl #[.agg #[.slice v.cA v.cn v.cc,.slice v.wA v.wn v.wc],.agg #[.slice v.aA v.an v.ac,.slice v.gA v.gn v.gc],.int .i64 k] InZ (by simp [go_sem]) (he.o wa.drew br.drew) ?_;rintro⟨K,G,S,D,q,d,T,E⟩ w2 h6;have h3:=A_ w2 (.cells bf 67);have u0:=rc0 h3;have u1:=rc1 h3;have u2:=rc2 h3;have u3:=rc3 h3;have u4:=ak h3 0;have u5:=ak h3 1;have u6:=ak h3 2;have u7:=ak h3 3;simp only [InZ])
    |(refine eh rfl 55 rfl #[.agg #[.slice v.cA v.cn v.cc,.slice v.wA v.wn v.wc],.agg #[.slice v.aA v.an v.ac,.slice v.gA v.gn v.gc],.int .i64 k] InZ (by simp [go_sem]) (he.o (wa.alloc (.cells bf 67)).drew hv.o) ?_;rintro⟨K,G,S,D,q,d,T,E⟩ w2 h6;have hM:=ah (w:=(wa.alloc (.cells bf 67)).drew) (A_ wa _) hw.o h6.1;have u0:=rc0 hM;have u1:=rc1 hM;have u2:=rc2 hM;have u3:=rc3 hM;have u4:=ak hM 0;have u5:=ak hM 1;have u6:=ak hM 2;have u7:=ak hM 3;simp only [InZ]))
   all_goals
    go_wp2_with fail;go_meet
    case rel=>first|exact n0s hM h6 hf.o|exact n0t h6 hf.o
  case rest=>
   rename World=>wx
   obtain⟨⟨K,G,S,D,q,d,E,M,rfl,rfl,hM,HM,HQ⟩,hr⟩:=hcut;have b0:=rc0 HM.o;have b1:=rc1 HM.o;have b2:=rc2 HM.o;have b3:=rc3 HM.o;have l0:=rc0 hr;have l1:=rc1 hr;have l2:=rc2 hr;have l3:=rc3 hr;have l4:=ak hr 0;have l5:=ak hr 1;have l6:=ak hr 2;have l7:=ak hr 3;have hm:=h_ (b9 (j:=3) (v:=.slice D q d) (b9 (j:=2) (v:=.int .i64 S) (b9 (j:=1) (v:=.int .i64 G) (b9 (j:=0) (v:=.int .i64 K) hr))));clear hr y0 y1 y2 y3 c0 c1 c2 c3;go_wp2;refine bodyPost_ret (cv rfl _ _ w.heap.size 67 #[.int .i64 K,.int .i64 G,.int .i64 S,.slice D q d] (0,0) _ rfl hm.o Tryz.underlying67 rfl du) rfl ?_;refine hu.o _ _ ⟨(K,G,S,D,q,d,E),rfl,?_⟩;obtain⟨q1,q2,q3⟩:=HQ.o;have hk:=h5.o.size;have h9:=hy.o;refine⟨((((h5.o.trans (q1.mono hk)).setCell (p:=⟨w.heap.size,0,none⟩) ler _).setCell (p:=⟨w.heap.size,1,none⟩) ler _).setCell (p:=⟨w.heap.size,2,none⟩) ler _).setCell (p:=⟨w.heap.size,3,none⟩) ler _,fun a ha=>Nat.le_trans hk (q2 a ha),?_⟩;rcases q3 with⟨e1,e2,e3,e4,e5⟩|q3
   ·have h8:∀b o,D=some ⟨b,o,none⟩→0 <q→b≠w.heap.size:=fun b o e _ e2=>by have h1:=q2 _ e;simp only at h1;omega
    exact .inl ⟨e1,e2,e3,e4,(dj (z:=3) (dj (z:=2) (dj (z:=1) (dj (z:=0) e5 h8 _) h8 _) h8 _) h8 _).more (by simp [World.setCell])⟩
   ·exact .inr q3
end
section
open Go.RowKit Go.PlainAid
def lv(acc:List be)(r:Option (List Nat×List be)):Option (List Nat×List be):=match r with
 |none=>none
 |some (s,l)=>some (s,acc++l)
theorem Fw(r:Option (List Nat×List be)):lv [] r=r:=by cases r<;>rfl
theorem qz(acc l:List be)(s:List Nat):lv acc (some (s,l))=some (s,acc++l):=rfl
theorem Fx(a b:List be)(r:Option (List Nat×List be)):lv a (lv b r)=lv (a++b) r:=by
 cases r with
 |none=>rfl
 |some p=>obtain⟨s,l⟩:=p;show some (s,a++(b++l))=some (s,a++b++l);rw [List.append_assoc]
section
variable {V:List Nat→Nat→List UInt8→Option (List Nat×List be)} {path:List UInt8} {s s1:List Nat} {t:ay} {L:List ay} {l1 acc:List be} {i:Nat}
theorem Fv(h:L[i]?=some t)(hv:V s t.Ino.toNat (path++47::bl t.Name)=none):fp V path s (L.drop i)=none:=by have hi:=(gS.1 h).1;rw [List.drop_eq_getElem_cons hi,(gS.1 h).2];simp only [fp,hv]
theorem Ft(h:L[i]?=some t)(hv:V s t.Ino.toNat (path++47::bl t.Name)=some (s1,l1)):fp V path s (L.drop i)=lv l1 (fp V path s1 (L.drop (i+1))):=by have hi:=(gS.1 h).1;rw [List.drop_eq_getElem_cons hi,(gS.1 h).2];simp only [fp,hv];cases fp V path s1 (L.drop (i+1))<;>rfl
theorem Fu(h:L.length≤i):fp V path s (L.drop i)=some (s,[]):=by rw [List.drop_eq_nil_of_le h];rfl
end
theorem Fs{cs:List ByteArray}{ws:List ae}{xs:List aa}{gs:List Int}{f n:Nat}{seen:List Nat}{path:List UInt8}{p:aa}{g:Int}(hp:xs[n]?=some p)(hg:gs[n]?=some g)(h0:n∉seen)(h:kc cs ws n p g)(h1:ndK cs ws p≠1)(h2:rdE (ndT cs ws p)=0):vis cs ws xs gs (f+1) seen n path=lv [⟨path,ndK cs ws p,⟨#[]⟩⟩] (fp (vis cs ws xs gs f) path (n::seen) ((rdR (ndT cs ws p)).drop 0)):=by rw [a0a hp hg h0 h h1 h2,List.drop_zero];cases fp (vis cs ws xs gs f) path (n::seen) (rdR (ndT cs ws p))<;>rfl
end
section
open Go.RowKit
theorem t8:(Tryz.prog.info? 35).map (fun i=>(i.zero,i.size,i.bytes))=some (some (.agg #[.string ⟨#[]⟩,.int .i64 0,.string ⟨#[]⟩]),3,40):=by kernel_rfl
structure ItI(ob lo:Nat)(tO:TypeId)(w0:World)(items:List be)(A:Option Addr)(c:Nat)(W:World):Prop where
 below:Below lo w0 W
 obox:W.heap[ob]?=some (.cells #[.slice A items.length c] tO (0,0))
 own:af W (ob+1) 3 (.slice A items.length c) items.length (items.flatMap be.cells)
 lo:lo≤ob
structure FrI(ob:Nat)(A:Option Addr)(W:World)(A':Option Addr)(W':World):Prop where
 size:W.heap.size≤W'.heap.size
 block:∀k,k <W.heap.size→k≠ob→(∀a,A=some a→a.block≠k)→W'.heap[k]?=W.heap[k]?
 own:A'=A∨∀a,A'=some a→(∃a0,A=some a0∧a.block=a0.block)∨W.heap.size≤a.block
section
variable {ob lo:Nat} {tO:TypeId} {w0 W W' W2:World} {items:List be} {A A' A2:Option Addr} {c c':Nat}
theorem FrI.of_below(h:Below W.heap.size W W'):FrI ob A W A W':=⟨h.size,fun k hk _ _=>h.block k hk,.inl rfl⟩
theorem FrI.far(h:FrI ob A W A' W'){g:Nat}(hg:g <W.heap.size)(hf:∀a,A=some a→a.block≠g):∀a,A'=some a→a.block≠g:=fun a ha e=>by
 rcases h.own with h1|h1
 ·rw [h1]at ha;exact hf a ha e
 ·rcases h1 a ha with⟨a0,e0,e1⟩|h2
  ·exact hf a0 e0 (e1▸e)
  ·omega
theorem FrI.trans(h:FrI ob A W A' W')(h2:FrI ob A' W' A2 W2):FrI ob A W A2 W2:=by
 refine⟨Nat.le_trans h.size h2.size,fun k hk ho hf=>(h2.block k (Nat.lt_of_lt_of_le hk h.size) ho (h.far hk hf)).trans (h.block k hk ho hf),?_⟩;right;intro a ha;rcases h2.own with e|e
 ·rw [e]at ha;rcases h.own with e3|e3
  ·rw [e3]at ha;exact .inl ⟨a,ha,rfl⟩
  ·exact e3 a ha
 ·rcases e a ha with⟨a0,e0,e1⟩|e2
  ·rcases h.own with e3|e3
   ·rw [e3]at e0;exact .inl ⟨a0,e0,e1⟩
   ·rcases e3 a0 e0 with⟨a1,e4,e5⟩|e4
    ·exact .inl ⟨a1,e4,e1.trans e5⟩
    ·right;omega
  ·right;exact Nat.le_trans h.size e2
theorem ItI.go(h:ItI ob lo tO w0 items A c W)(hb:Below W.heap.size W W'):ItI ob lo tO w0 items A c W':=
 {below:=h.below.trans (hb.mono (by have:=ag h.obox;have:=h.lo;omega)),obox:=ah h.obox (ag h.obox) hb,own:=h.own.fresh_below hb,lo:=h.lo}
theorem ItI.add(h:ItI ob lo tO w0 items A c W){x:be}{A3:Option Addr}{c3:Nat}(hown:af W2 (ob+1) 3 (.slice A3 (items.length+1) c3) (items.length+1) (items.flatMap be.cells++x.cells))(hl:ed W W2 (ob+1) (Value.ownBlock (.slice A items.length c)))(hn:Value.ownBlock (.slice A3 (items.length+1) c3)=Value.ownBlock (.slice A items.length c)∨∀k,Value.ownBlock (.slice A3 (items.length+1) c3)=some k→W.heap.size≤k):ItI ob lo tO w0 (items++[x]) A3 c3 (W2.setCell ⟨ob,0,none⟩ (.slice A3 (items.length+1) c3))∧FrI ob A W A3 (W2.setCell ⟨ob,0,none⟩ (.slice A3 (items.length+1) c3)):=by
 have h2:Value.ownBlock (.slice A items.length c)≠some ob:=fun e=>by have h1:ob+1≤ob:=(h.own.lt _ e).1;omega
 have hz:=hl.size;have h0:(items++[x]).length=items.length+1:=by simp
 refine⟨{below:=?_,obox:=?_,own:=?_,lo:=h.lo},⟨by simp [World.setCell];omega,fun k hk ho hf=>?_,?_⟩⟩
 ·exact(hl.below (by have:=h.lo;omega) h.below).setCell (p:=⟨ob,0,none⟩) h.lo _
 ·rw [h0];exact b9 (j:=0) (v:=.slice A3 (items.length+1) c3) (dw h.obox hl h2)
 ·rw [h0,List.flatMap_append];exact af.setOther (by simpa using hown) (fun e=>by have h1:ob+1≤ob:=(hown.lt _ e).1;omega) _
 ·refine(Below.heap_setCell _ _ _ _ ho).trans (hl.grown.block k hk fun e=>?_);cases hA:A with
  |none=>rw [hA]at e;cases e
  |some a=>rw [hA]at e;injection e with e;exact hf a hA e.symm
 ·right;intro a ha;rcases hn with e|e
  ·left;rw [ha]at e;cases hA:A with
   |none=>rw [hA]at e;cases e
   |some a0=>rw [hA]at e;injection e with e;exact⟨a0,rfl,e⟩
  ·right;exact e a.block (by rw [ha];rfl)
end
end
section
open Go.RowKit Go.PlainAid
theorem u0q:∀(args:Array Value) (W:World),(callFunc 19 args).run Tryz.prog W= .ok (.enter 19 args) W:=fun args W=>by kernel_rfl
theorem pd(W:World)(o1 o2:Obj):((W.alloc o1).alloc o2).heap[W.heap.size+1]?=some o2:=by have:=A_ (W.alloc o1) o2;rwa [show(W.alloc o1).heap.size=W.heap.size+1 by simp]at this
def se(ob lo:Nat)(tO:TypeId)(w0 W:World)(items:List be)(A:Option Addr)(x:be)(e:Ending)(w':World):Prop:=
 e= .returned (.bool true)∧∃A' c',ItI ob lo tO w0 (items++[x]) A' c' w'∧FrI ob A W A' w'
theorem w0u(ob lo fb:Nat)(tO:TypeId)(w0:World)(items:List be)(A:Option Addr)(c:Nat)(n:Int)(t P0:ByteArray)(x:be)(K G S:Int)(D:Option Addr)(q d:Nat)(W:World)(hP:(t=⟨#[]⟩∧P0=⟨#[47]⟩)∨(t.toList.isEmpty=false∧P0=t))(hx:x.cells=[.string P0,.int .i64 K,.string ⟨#[]⟩])(hI:ItI ob lo tO w0 items A c W)(hK:K≠1)(hlen:items.length≤1000):Calls Tryz.prog 19 #[.int .i64 n,.string t,.agg #[.int .i64 K,.int .i64 G,.int .i64 S,.slice D q d],.pointer (some ⟨fb,0,none⟩),.pointer (some ⟨ob,0,none⟩)] W (se ob lo tO w0 W items A x):=by
 have g1:(K==1)=false:=bF hK;have G3:Hid (items.length+1≤maxLen∧(items.length+1)*40≤140737488355328):=by unfold maxLen Hid;omega
 have G4:Hid (0 <3):=by simp [Hid]
 have ha:Hid (∀w' A' c',ItI ob lo tO w0 (items++[x]) A' c' w'→FrI ob A W A' w'→se ob lo tO w0 W items A x (.returned (.bool true)) w'):=h_ fun w' A' c' h1 h2=>⟨rfl,A',c',h1,h2⟩
 have h9:Hid (∀W',ItI ob lo tO w0 items A c W'→ob+1≤W'.heap.size):=h_ fun W' h=>ag h.obox
 have hc:Hid (∀W',ItI ob lo tO w0 items A c W'→Value.ownBlock (.slice A items.length c)≠some ob):=h_ fun W' h e=>by have h1:ob+1≤ob:=(h.own.lt _ e).1;omega
 have HX:=h_ hx;generalize se ob lo tO w0 W items A x=PP at*;clear hx hK hlen;rcases hP with⟨rfl,rfl⟩|⟨g2,rfl⟩
 ·have h3:Below W.heap.size W ((W.alloc (.cells #[.int .i64 K,.int .i64 G,.int .i64 S,.slice D q d] 67)).alloc (.cells #[.string ⟨#[47]⟩,.int .i64 K,.string ⟨#[]⟩] 35)):=(br.alloc ler _).alloc (by simp) _;have h7:Hid (((W.alloc (.cells #[.int .i64 K,.int .i64 G,.int .i64 S,.slice D q d] 67)).alloc (.cells #[.string ⟨#[47]⟩,.int .i64 K,.string ⟨#[]⟩] 35)).heap.size=W.heap.size+1+1):=h_ (by simp);have h0:((W.alloc (.cells #[.int .i64 K,.int .i64 G,.int .i64 S,.slice D q d] 67)).alloc (.cells #[.string ⟨#[47]⟩,.int .i64 K,.string ⟨#[]⟩] 35)).heap[W.heap.size+1]?=some (.cells #[.string ⟨#[47]⟩,.int .i64 K,.string ⟨#[]⟩] 35 (0,0)):=pd W _ _;have HI:=h_ (hI.go h3);have h8:Hid (FrI ob A W A ((W.alloc (.cells #[.int .i64 K,.int .i64 G,.int .i64 S,.slice D q d] 67)).alloc (.cells #[.string ⟨#[47]⟩,.int .i64 K,.string ⟨#[]⟩] 35))):=h_ (FrI.of_below h3);have m0:=rc0 h0;have m1:=rc1 h0;have m2:=rc2 h0;have o0:=rc0 HI.o.obox;have G2:Hid (∀u∈(#[.string ⟨#[47]⟩,.int .i64 K,.string ⟨#[]⟩]:Array Value).toList,u.oneCell'=true):=by simp [Hid,Value.oneCell']
  have hd:ob≠W.heap.size+1:=by have:=ag hI.obox;omega
  clear h3 h0 hI;go_enter Tryz.func19,Tryz.ntmps19;go_wp2_with(at_builtin;refine dx (size:=3) (bytes:=40) (base:=ob+1) (H:=W.heap.size+1+1) (news:= #[.string ⟨#[47]⟩,.int .i64 K,.string ⟨#[]⟩]) rfl rfl Tryz.underlying30 t8 rfl G4.o HI.o.own rfl (h9.o _ HI.o) rfl h7.o rfl G2.o G3.o.1 G3.o.2 ?_;intro A3 c3 w3 h6 h4 h5;have hq:=dw HI.o.obox h4 (hc.o _ HI.o);have q1:=aj hq 0;have q2:=ak hq 0);have HA:=HI.o.add (x:=x) (by rw [HX.o];exact h6) h4 h5;have HZ:=ha.o _ _ _ HA.1 (h8.o.trans HA.2)
  first|exact HZ|(go_ret;exact HZ)|(go_ret2;exact HZ)
 ·have h3:Below W.heap.size W ((W.alloc (.cells #[.int .i64 K,.int .i64 G,.int .i64 S,.slice D q d] 67)).alloc (.cells #[.string P0,.int .i64 K,.string ⟨#[]⟩] 35)):=(br.alloc ler _).alloc (by simp) _;have h7:Hid (((W.alloc (.cells #[.int .i64 K,.int .i64 G,.int .i64 S,.slice D q d] 67)).alloc (.cells #[.string P0,.int .i64 K,.string ⟨#[]⟩] 35)).heap.size=W.heap.size+1+1):=h_ (by simp);have h0:((W.alloc (.cells #[.int .i64 K,.int .i64 G,.int .i64 S,.slice D q d] 67)).alloc (.cells #[.string P0,.int .i64 K,.string ⟨#[]⟩] 35)).heap[W.heap.size+1]?=some (.cells #[.string P0,.int .i64 K,.string ⟨#[]⟩] 35 (0,0)):=pd W _ _;have HI:=h_ (hI.go h3);have h8:Hid (FrI ob A W A ((W.alloc (.cells #[.int .i64 K,.int .i64 G,.int .i64 S,.slice D q d] 67)).alloc (.cells #[.string P0,.int .i64 K,.string ⟨#[]⟩] 35))):=h_ (FrI.of_below h3);have m0:=rc0 h0;have m1:=rc1 h0;have m2:=rc2 h0;have o0:=rc0 HI.o.obox;have G2:Hid (∀u∈(#[.string P0,.int .i64 K,.string ⟨#[]⟩]:Array Value).toList,u.oneCell'=true):=by simp [Hid,Value.oneCell']
  have hd:ob≠W.heap.size+1:=by have:=ag hI.obox;omega
  clear h3 h0 hI;go_enter Tryz.func19,Tryz.ntmps19;go_wp2_with(at_builtin;refine dx (size:=3) (bytes:=40) (base:=ob+1) (H:=W.heap.size+1+1) (news:= #[.string P0,.int .i64 K,.string ⟨#[]⟩]) rfl rfl Tryz.underlying30 t8 rfl G4.o HI.o.own rfl (h9.o _ HI.o) rfl h7.o rfl G2.o G3.o.1 G3.o.2 ?_;intro A3 c3 w3 h6 h4 h5;have hq:=dw HI.o.obox h4 (hc.o _ HI.o);have q1:=aj hq 0;have q2:=ak hq 0);have HA:=HI.o.add (x:=x) (by rw [HX.o];exact h6) h4 h5;have HZ:=ha.o _ _ _ HA.1 (h8.o.trans HA.2)
  first|exact HZ|(go_ret;exact HZ)|(go_ret2;exact HZ)
end
end Go.Proofs.YtcldpfhpkbeaiadGreat
