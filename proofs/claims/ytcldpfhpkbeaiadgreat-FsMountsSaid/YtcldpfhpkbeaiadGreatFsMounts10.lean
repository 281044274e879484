/- A part of the proof of FsMounts. No condition of ours. -/
import Derived.Test.YtcldpfhpkbeaiadGreatFsMounts09
set_option maxRecDepth 20000
set_option maxHeartbeats 1000000
namespace Go.Proofs.YtcldpfhpkbeaiadGreat
section
open Go.RowKit
theorem o0f{w0 W:World}{B:Nat}{v0 v1 v2 v3:Value}(h:W.cell? ⟨B,0,none⟩=some v0∧W.cell? ⟨B,1,none⟩=some v1∧W.cell? ⟨B,2,none⟩=some v2∧W.cell? ⟨B,3,none⟩=some v3∧B <W.heap.size∧Below w0.heap.size w0 W):W.drew.cell? ⟨B,0,none⟩=some v0∧W.drew.cell? ⟨B,1,none⟩=some v1∧W.drew.cell? ⟨B,2,none⟩=some v2∧W.drew.cell? ⟨B,3,none⟩=some v3∧B <W.drew.heap.size∧Below w0.heap.size w0 W.drew:=⟨h.1,h.2.1,h.2.2.1,h.2.2.2.1,h.2.2.2.2.1,h.2.2.2.2.2.drew⟩
theorem o0g{w0 W W':World}{B:Nat}{v0 v1 v2 v3:Value}(h:W.cell? ⟨B,0,none⟩=some v0∧W.cell? ⟨B,1,none⟩=some v1∧W.cell? ⟨B,2,none⟩=some v2∧W.cell? ⟨B,3,none⟩=some v3∧B <W.heap.size∧Below w0.heap.size w0 W)(hb:Below W.heap.size W W'):W'.cell? ⟨B,0,none⟩=some v0∧W'.cell? ⟨B,1,none⟩=some v1∧W'.cell? ⟨B,2,none⟩=some v2∧W'.cell? ⟨B,3,none⟩=some v3∧B <W'.heap.size∧Below w0.heap.size w0 W':=by obtain⟨h0,h1,h2,h3,h4,h5⟩:=h;have hz:=hb.size;exact⟨(hb.cell (p:=⟨B,0,none⟩) h4).trans h0,(hb.cell (p:=⟨B,1,none⟩) h4).trans h1,(hb.cell (p:=⟨B,2,none⟩) h4).trans h2,(hb.cell (p:=⟨B,3,none⟩) h4).trans h3,by omega,h5.trans (hb.mono h5.size)⟩
noncomputable def sy(k g s:Int)(xs:List aa):List Int:=if ez k g s xs=0 then zp k g s xs else []
theorem o0w(k g s:Int)(A:Option Addr)(n c:Nat)(xs:List aa)(w:World)(hs0: -9223372036854775808≤s)(hs1:s≤9223372036854775807)(r:ab w w.heap.size A n c aa.cells 2 xs):Calls Tryz.prog 99 #[.agg #[.int .i64 k,.int .i64 g,.int .i64 s,.slice A n c]] w fun e w'=>e= .returned (.tuple #[.string (strOfNums (sy k g s xs)),.int .i64 (ez k g s xs)])∧Below w.heap.size w w':=by
 have h2:Below w.heap.size w (w.alloc (.cells #[.int .i64 k,.int .i64 g,.int .i64 s,.slice A n c] 67)):=br.alloc ler _;obtain⟨h7,h4,h5,h6⟩:=xp w (.int .i64 k) (.int .i64 g) (.int .i64 s) (.slice A n c) 67;have h1:w.heap.size < (w.alloc (.cells #[.int .i64 k,.int .i64 g,.int .i64 s,.slice A n c] 67)).heap.size:=by simp
 obtain⟨wa,h3⟩:∃wa,wa=w.alloc (.cells #[.int .i64 k,.int .i64 g,.int .i64 s,.slice A n c] 67):=⟨_,rfl⟩;rw [←h3]at h7 h4 h5 h6 h2 h1;have H:=h_ (o0x k g s A n c xs wa hs0 hs1 ((r.below h2).more (Nat.le_of_lt h1)));have hp:=r.len;subst hp;by_cases hE:ez k g s xs=0
 ·obtain⟨hk,ht,hx,hs,hr,hg,h8⟩:=D5 hE;have hS:sy k g s xs=zp k g s xs:=if_pos hE;rw [hE]at H;have F:=h_ hS;have E:=h_ hE;have HR:=h_ h8;clear hS hE h8;have hu:1≤k∧k≤2:=by omega
  clear hk;have hA:xs.length≤8:=by omega
  clear hg;have u1:IntKind.u64.wrap k=k:=by rw [IntKind.wrap_u64];omega
  have u2:IntKind.u64.wrap g=g:=by rw [IntKind.wrap_u64];omega
  have u3:IntKind.u64.wrap s=s:=by rw [IntKind.wrap_u64];omega
  have C1:Hid (∀W,Calls Tryz.prog 104 #[.int .u64 k,.int .i64 1] W fun e w'=>e= .returned (.string (strOfNums (cb 1 k)))∧Below W.heap.size W w'):=fun W=>by have:=ky k 1 W (by omega) (by omega) (by omega) (by omega);rwa [Jt]at this
  have C2:Hid (∀W,Calls Tryz.prog 104 #[.int .u64 g,.int .i64 4] W fun e w'=>e= .returned (.string (strOfNums (cb 4 g)))∧Below W.heap.size W w'):=fun W=>by have:=ky g 4 W (by omega) (by omega) (by omega) (by omega);rwa [x8]at this
  have C3:Hid (∀W,Calls Tryz.prog 104 #[.int .u64 s,.int .i64 2] W fun e w'=>e= .returned (.string (strOfNums (cb 2 s)))∧Below W.heap.size W w'):=fun W=>by have:=ky s 2 W (by omega) (by omega) (by omega) (by omega);rwa [Js]at this
  have l1:=l8 1 k;have l2:=l8 4 g;have l3:=l8 2 s;have F2:Hid (zp k g s xs=cb 1 k++cb 4 g++cb 2 s++lj xs):=rfl;generalize cb 1 k=L1 at*;generalize cb 4 g=L2 at*;generalize cb 2 s=L3 at*;have hh:=fq (P:=Tryz.prog) L1 L2 (by omega);have hm:=fq (P:=Tryz.prog) (L1++L2) L3 (by rw [List.length_append];omega);go_enter Tryz.func99,Tryz.ntmps99;go_wp2_with(go_at_call 122;rw [←h3];refine H.o.mono ?_;rintro e w1 ⟨rfl,h0⟩)
  have HS:w1.cell? ⟨w.heap.size,0,none⟩=some (.int .i64 k)∧w1.cell? ⟨w.heap.size,1,none⟩=some (.int .i64 g)∧w1.cell? ⟨w.heap.size,2,none⟩=some (.int .i64 s)∧w1.cell? ⟨w.heap.size,3,none⟩=some (.slice A xs.length c)∧w.heap.size <w1.heap.size∧Below w.heap.size w w1:=by have hz:=h0.size;exact⟨(h0.cell (p:=⟨w.heap.size,0,none⟩) h1).trans h7,(h0.cell (p:=⟨w.heap.size,1,none⟩) h1).trans h4,(h0.cell (p:=⟨w.heap.size,2,none⟩) h1).trans h5,(h0.cell (p:=⟨w.heap.size,3,none⟩) h1).trans h6,by omega,h2.trans (h0.mono (Nat.le_of_lt h1))⟩
  clear h3 H h0 h2 h7 h4 h5 h6 h1
  go_region_held3 (fun W=>W.cell? ⟨w.heap.size,0,none⟩=some (.int .i64 k)∧W.cell? ⟨w.heap.size,1,none⟩=some (.int .i64 g)∧W.cell? ⟨w.heap.size,2,none⟩=some (.int .i64 s)∧W.cell? ⟨w.heap.size,3,none⟩=some (.slice A xs.length c)∧w.heap.size <W.heap.size∧Below w.heap.size w W)
   (first|assumption|exact o0f (by assumption)|exact o0g (by assumption) (by assumption))
   (first
   |(go_at_call_of 104 (Value.int .i64 1);refine(C1.o _).mono ?_;rintro e w' ⟨rfl,hb⟩)
   |(go_at_call_of 104 (Value.int .i64 4);refine(C2.o _).mono ?_;rintro e w' ⟨rfl,hb⟩)
   |(go_at_call_of 104 (Value.int .i64 2);refine(C3.o _).mono ?_;rintro e w' ⟨rfl,hb⟩))
  rename_i hHeld;obtain⟨hj,hf,hq,hD,hw,he⟩:=hHeld;clear hh hm u1 u2 u3 C1 C2 C3 hj hf hq;go_wp2;go_loopw [5,30] (fun v5 v30 wr=>∃(i:Nat) (T:List Int),i≤xs.length∧T.length≤7+2*i∧Hid (T=L1++(L2++L3)++lj (xs.take i))∧v30= .int .i64 i∧v5= .string (strOfNums T)∧Below w.heap.size w wr) (fun _ v30 _=>xs.length- (intOf v30).toNat)
  case atStart=>exact⟨0,L1++(L2++L3),zl,by simp;omega,by simp [Hid,lj],rfl,rfl,he⟩
  case round=>
   obtain⟨i,T,hi,hT,h9,rfl,rfl,hb⟩:=hrel;have hn:=hb.size;by_cases hlt:i <xs.length
   ·obtain⟨p,e1,g1⟩:=HR.o i hlt;obtain⟨b,o,rfl,hC,hc⟩:=(r.below hb).at_ i _ e1;obtain⟨pc,pn⟩:=p;have ha:=hc 0 _ rfl;have hv:=hc 1 _ rfl;simp only [Nat.add_zero]at ha;obtain⟨z0,z1,z2,z3⟩:=Pz g1;simp only at z0 z1 z2 z3;have HP:=h_ (j0e xs i _ e1);clear hc e1 g1
    have D1:Hid (∀W,Calls Tryz.prog 104 #[.int .u64 (pc*256+pn),.int .i64 2] W fun e w'=>e= .returned (.string (strOfNums [pc,pn]))∧Below W.heap.size W w'):=fun W=>by have:=ky (pc*256+pn) 2 W (by omega) (by omega) (by omega) (by omega);rwa [r0c (by omega) (by omega) (by omega) (by omega)]at this
    have hB:=fq (P:=Tryz.prog) T [pc,pn] (by simp;omega);have u1:IntKind.u64.wrap (pc*256+pn)=pc*256+pn:=by rw [IntKind.wrap_u64];omega
    go_wp2_with(go_at_call 104;refine(D1.o _).mono ?_;rintro e w' ⟨rfl,hd⟩);go_roundw
    case rel=>exact⟨i+1,T++[pc,pn],by omega,by simp;omega,by simp only [Hid];rw [HP.o,h9.o];simp,by go_num,rfl,(hb.alloc hn _).trans (hd.mono (by simp;omega))⟩
    case measure=>simp [intOf];omega
   ·have hF:sy k g s xs=T:=by rw [F.o,F2.o,h9.o,List.take_of_length_le (by omega)];simp
    go_wp2;go_ret2;exact⟨em (by rw [hF]) E.o.symm,hb⟩
 ·have hS:sy k g s xs=[]:=if_neg hE;have hy:(ez k g s xs !=0)=true:=bN hE;have F:=h_ hS;generalize ez k g s xs=ee at*;clear hE;go_enter Tryz.func99,Tryz.ntmps99;go_wp2_with(go_at_call 122;rw [←h3];refine H.o.mono ?_;rintro e w1 ⟨rfl,h0⟩);go_ret2;exact⟨em (by rw [F.o];rfl) rfl,h2.trans (h0.mono (Nat.le_of_lt h1))⟩
end
section
open Go.RowKit Go.PlainAid
def iK(s:ByteArray):Int:=bt s 0
def iG(s:ByteArray):Int:=beF (fun i=>bt s (1+i)) 4
def iS(s:ByteArray):Int:=beF (fun i=>bt s (5+i)) 2
theorem N9(s:ByteArray)(h:7≤s.size):fh (s.extract 1 5)=iG s:=by have hz:=mn s 1 5 (by omega);rw [(pv (by omega)).1,hz];exact Ak _ _ 4 fun i hi=>l9 s 1 5 i (by omega) (by omega)
theorem N8(s:ByteArray)(h:7≤s.size):fh (s.extract 5 7)=iS s:=by have hz:=mn s 5 7 (by omega);rw [(pv (by omega)).1,hz];exact Ak _ _ 2 fun i hi=>l9 s 5 7 i (by omega) (by omega)
theorem Un(s:ByteArray):0≤iG s∧iG s <4294967296:=rz _ (fun _=>bt_nonneg s _) (fun _=>bt_le s _) 4
theorem Dd(s:ByteArray):0≤iS s∧iS s <65536:=rz _ (fun _=>bt_nonneg s _) (fun _=>bt_le s _) 2
def iP(s:ByteArray)(k:Nat):List aa:=(List.range k).map fun i=>⟨bt s (7+2*i),bt s (8+2*i)⟩
theorem p0v(s:ByteArray)(k:Nat):(iP s k).length=k:=by simp [iP]
theorem Jg(s:ByteArray)(k:Nat):iP s (k+1)=iP s k++[⟨bt s (7+2*k),bt s (8+2*k)⟩]:=by simp [iP,List.range_succ]
def iN(s:ByteArray):Nat:=(s.size-7)/2
theorem Rb(s:ByteArray):∀k,btL s 7++lj (iP s k)=btL s (7+2*k)
 |0=>by simp [iP,lj]
 |k+1=>by rw [Jg,Rc,←List.append_assoc,Rb s k,show 7+2*(k+1)=7+2*k+1+1 by omega,Xt,Xt];simp [lj,show 7+2*k+1=8+2*k by omega]
theorem o0z(s:ByteArray)(k:Nat):zp (iK s) (iG s) (iS s) (iP s k)=btL s (7+2*k):=by
 rw [←Rb];unfold zp;have a:=Va (fun i=>bt s (1+i)) (fun j=>bt_nonneg s _) (fun j=>bt_le s _);have b:=Vb (fun i=>bt s (5+i)) (fun j=>bt_nonneg s _) (fun j=>bt_le s _)
 have c:cb 1 (iK s)=[bt s 0]:=by have h0:=bt_nonneg s 0;have h1:=bt_le s 0;simp [cb,iK];omega
 rw [show iG s=beF (fun i=>bt s (1+i)) 4 from rfl,show iS s=beF (fun i=>bt s (5+i)) 2 from rfl,a,b,c];congr 1
def pp(s:ByteArray):Prop:=7≤s.size∧s.size%2=1∧ez (iK s) (iG s) (iS s) (iP s (iN s))=0
open Classical in
noncomputable def irK(s:ByteArray):Int:=if pp s then iK s else 0
open Classical in
noncomputable def irG(s:ByteArray):Int:=if pp s then iG s else 0
open Classical in
noncomputable def irS(s:ByteArray):Int:=if pp s then iS s else 0
open Classical in
noncomputable def irE(s:ByteArray):Int:=if pp s then 0 else 4
open Classical in
noncomputable def irP(s:ByteArray):List aa:=if pp s then iP s (iN s)else []
theorem rh{s:ByteArray}(h:¬pp s):irK s=0∧irG s=0∧irS s=0∧irE s=4∧irP s=[]:=by unfold irK irG irS irE irP;simp only [if_neg h,and_self]
theorem zn{s:ByteArray}(h:pp s):irK s=iK s∧irG s=iG s∧irS s=iS s∧irE s=0∧irP s=iP s (iN s):=by unfold irK irG irS irE irP;simp only [if_pos h,and_self]
theorem Um(s:ByteArray):7≤s.size→7+2*iN s≤s.size∧s.size <9+2*iN s:=by intro h;unfold iN;omega
end
section
open Go.RowKit
def wrE(cs:List ByteArray)(ws:List ae)(a:Int)(t:ByteArray):Int:=
 if au cs ws≠0 then au cs ws else if ey cs.length a t.size≠0 then ey cs.length a t.size else if ws.length=400 then 9 else 0
def wrX(cs:List ByteArray)(ws:List ae)(a:Int)(t:ByteArray):List ByteArray:=if wrE cs ws a t=0 then cs else []
def wrY(cs:List ByteArray)(ws:List ae)(a:Int)(t:ByteArray):List ae:=if wrE cs ws a t=0 then ws++[⟨a,t⟩]else []
theorem Zn{cs:List ByteArray}{ws:List ae}{a:Int}{t:ByteArray}(h:au cs ws≠0):wrE cs ws a t=au cs ws:=if_pos h
theorem Zk{cs:List ByteArray}{ws:List ae}{a:Int}{t:ByteArray}(h:au cs ws=0)(h2:ey cs.length a t.size≠0):wrE cs ws a t=ey cs.length a t.size:=by unfold wrE;rw [if_neg (by simp [h]),if_pos h2]
theorem Zm{cs:List ByteArray}{ws:List ae}{a:Int}{t:ByteArray}(h:au cs ws=0)(h2:ey cs.length a t.size=0)(h3:ws.length=400):wrE cs ws a t=9:=by unfold wrE;rw [if_neg (by simp [h]),if_neg (by simp [h2]),if_pos h3]
theorem M8{cs:List ByteArray}{ws:List ae}{a:Int}{t:ByteArray}(h:au cs ws=0)(h2:ey cs.length a t.size=0)(h3:ws.length≠400):wrE cs ws a t=0:=by unfold wrE;rw [if_neg (by simp [h]),if_neg (by simp [h2]),if_neg h3]
theorem Fg{cs:List ByteArray}{ws:List ae}{a:Int}{t:ByteArray}{e:Int}(h:wrE cs ws a t=e)(he:e≠0):wrX cs ws a t=[]∧wrY cs ws a t=[]:=by unfold wrX wrY;rw [h,if_neg he,if_neg he];exact⟨rfl,rfl⟩
theorem Zj{cs:List ByteArray}{ws:List ae}{a:Int}{t:ByteArray}(h:wrE cs ws a t=0):wrX cs ws a t=cs∧wrY cs ws a t=ws++[⟨a,t⟩]:=by unfold wrX wrY;rw [h,if_pos rfl,if_pos rfl];exact⟨rfl,rfl⟩
theorem Xa:∀ {l:List ByteArray},gd l=0→∀s∈l,s.size≤1024
 | [],_,s,hs=>by simp at hs
 |x::r,h,s,hs=>by
  unfold gd at h;split at h
  ·cases h
  ·rcases List.mem_cons.1 hs with rfl|hs
   ·omega
   ·exact Xa h s hs
theorem Tm(a:Int)(K:Nat→Bool):∀(l:List ae) (i:Nat) (d:ByteArray),(∀p∈l,p.Text.size≤1024)→d.size≤1024→(gf a K i l d).size≤1024
 | [],_,_,_,h=>h
 |p::r,i,d,hp,h=>by unfold gf;exact Tm a K r (i+1) _ (fun q hq=>hp q (List.mem_cons_of_mem _ hq)) (by split;exact hp p (by simp);exact h)
def pl:List ByteArray→List ae→List OpD→Int×List ByteArray×List ae
 |C,W,[]=>(0,C,W)
 |C,W,o::r=>
  if o.Kind=2∧o.At=0∧o.Text.size=0 then pl (kp ia C W) [] r
  else if o.Kind≠1 then(4,[],[])
  else if ey C.length o.At o.Text.size≠0 then(ey C.length o.At o.Text.size,[],[])
  else if W.length=400 then(9,[],[])
  else pl C (W++[⟨o.At,o.Text⟩]) r
def fw(cs:List ByteArray)(ws:List ae)(n:Int)(p:aa)(g:Int):Prop:=ubE cs ws p.Cell p.Nth=0∧(ubB cs ws p.Cell p.Nth).Kind=2∧(ubB cs ws p.Cell p.Nth).Ino=n∧irE (ubB cs ws p.Cell p.Nth).Text=0∧irG (ubB cs ws p.Cell p.Nth).Text=g
def km(cs:List ByteArray)(ws:List ae)(n k:Int)(q:aa):Prop:=ubE cs ws q.Cell q.Nth=0∧(ubB cs ws q.Cell q.Nth).Kind=1∧(ubB cs ws q.Cell q.Nth).Ino=n∧(ubB cs ws q.Cell q.Nth).Nth=k
noncomputable def pts(cs:List ByteArray)(ws:List ae)(p:aa):List aa:=irP (ubB cs ws p.Cell p.Nth).Text
def ov(cs:List ByteArray)(ws:List ae)(n:Int)(l:List aa)(i:Nat):Prop:=∀(j:Nat) (q:aa),j <i→l[j]?=some q→q.Cell=0∨km cs ws n j q
def ptL(l:List aa)(i:Nat):List aa:=(l.take i).filter (fun q=>decide (q.Cell≠0))
def zr(cs:List ByteArray)(ws:List ae)(n:Nat)(p:aa)(g:Int):Prop:=p.Cell=0∨(fw cs ws n p g∧ov cs ws n (pts cs ws p) (pts cs ws p).length)
noncomputable def inL(cs:List ByteArray)(ws:List ae)(p:aa):List aa:=if p.Cell=0 then []else p::ptL (pts cs ws p) (pts cs ws p).length
def ix(cs:List ByteArray)(ws:List ae)(xs:List aa)(gs:List Int)(i:Nat):Prop:=∀(n:Nat) (p:aa) (g:Int),n <i→xs[n]?=some p→gs[n]?=some g→zr cs ws n p g
noncomputable def alL(cs:List ByteArray)(ws:List ae)(xs:List aa)(i:Nat):List aa:=(xs.take i).flatMap (inL cs ws)
noncomputable def cnt(cs:List ByteArray)(ws:List ae)(l:List aa):List Int:=l.foldl (fun acc p=>acc.set p.Cell.toNat (acc.getD p.Cell.toNat 0+((ubB cs ws p.Cell p.Nth).Text.size:Int))) (List.replicate cs.length 0)
section
variable {cs:List ByteArray} {ws:List ae} {xs:List aa} {gs:List Int}
theorem Qt{l:List aa}{i:Nat}{q:aa}(h:l[i]?=some q)(h0:q.Cell=0):ptL l (i+1)=ptL l i:=by unfold ptL;rw [List.take_add_one,h,List.filter_append];simp [h0]
theorem Qu{l:List aa}{i:Nat}{q:aa}(h:l[i]?=some q)(h0:q.Cell≠0):ptL l (i+1)=ptL l i++[q]:=by unfold ptL;rw [List.take_add_one,h,List.filter_append];simp [h0]
theorem Gw(l:List aa)(i:Nat):(ptL l i).length≤i:=by unfold ptL;have h1:=List.length_filter_le (fun q:aa=>decide (q.Cell≠0)) (l.take i);have h2:=List.length_take_le i l;omega
theorem Cd{n:Int}{l:List aa}{i:Nat}{q:aa}(h:ov cs ws n l i)(hq:l[i]?=some q)(h1:q.Cell=0∨km cs ws n i q):ov cs ws n l (i+1):=fun j r hj hr=>by
 rcases Nat.lt_succ_iff_lt_or_eq.1 hj with hj|rfl
 ·exact h j r hj hr
 ·rw [hq]at hr;injection hr with hr;subst hr;exact h1
theorem Ry{n:Int}{l:List aa}{i:Nat}{q:aa}(hq:l[i]?=some q)(h0:q.Cell≠0)(h1:¬km cs ws n i q):¬ov cs ws n l l.length:=fun h=>by
 rcases h i q (gS.1 hq).1 hq with h|h
 ·exact h0 h
 ·exact h1 h
theorem Yx:ix cs ws xs gs 0:=fun n p g h=>by omega
theorem Ep{i:Nat}{p:aa}{g:Int}(h:ix cs ws xs gs i)(hp:xs[i]?=some p)(hg:gs[i]?=some g)(h1:zr cs ws i p g):ix cs ws xs gs (i+1):=fun n p' g' hn hp' hg'=>by
 rcases Nat.lt_succ_iff_lt_or_eq.1 hn with hn|rfl
 ·exact h n p' g' hn hp' hg'
 ·rw [hp]at hp';rw [hg]at hg';injection hp' with hp';injection hg' with hg';subst hp';subst hg';exact h1
theorem Er{i m:Nat}{p:aa}{g:Int}(hi:i <m)(hp:xs[i]?=some p)(hg:gs[i]?=some g)(h1:¬zr cs ws i p g):¬ix cs ws xs gs m:=fun h=>h1 (h i p g hi hp hg)
theorem An{i:Nat}{p:aa}(hp:xs[i]?=some p):alL cs ws xs (i+1)=alL cs ws xs i++inL cs ws p:=by unfold alL;rw [List.take_add_one,hp,List.flatMap_append];simp
theorem Jc{p:aa}(h:p.Cell=0):inL cs ws p=[]:=if_pos h
theorem Ua{p:aa}(h:p.Cell≠0):inL cs ws p=p::ptL (pts cs ws p) (pts cs ws p).length:=if_neg h
theorem J9(t:ByteArray):(irP t).length≤8:=by
 by_cases h:pp t
 ·rw [(zn h).2.2.2.2];obtain⟨_,_,_,_,h4,h5,_⟩:=D5 h.2.2;rw [p0v]at*;omega
 ·rw [(rh h).2.2.2.2];simp
theorem U3{t:ByteArray}{q:aa}(h:q∈irP t):dk q.Cell q.Nth=true:=by
 by_cases hk:pp t
 ·rw [(zn hk).2.2.2.2]at h;obtain⟨i,hi,e⟩:=List.mem_iff_getElem.1 h;obtain⟨p,hp,hr⟩:=(D5 hk.2.2).2.2.2.2.2.2 i hi;rw [gE hi]at hp;injection hp with hp;rw [←e,hp];exact hr
 ·rw [(rh hk).2.2.2.2]at h;simp at h
theorem p0e(p:aa):(inL cs ws p).length≤9:=by
 unfold inL;split
 ·simp
 ·have h1:=Gw (pts cs ws p) (pts cs ws p).length;have h2:(pts cs ws p).length≤8:=J9 _;simp;omega
theorem Yw(i:Nat):(alL cs ws xs i).length≤9*i:=by
 unfold alL
 have:∀l:List aa,(l.flatMap (inL cs ws)).length≤9*l.length:=fun l=>by
  induction l with
  |nil=>simp
  |cons p r ih=>have:=p0e (cs:=cs) (ws:=ws) p;simp [List.flatMap_cons]at*;omega
 have h1:=this (xs.take i);have h2:=List.length_take_le i xs;omega
theorem u0a(l:List aa)(p:aa):cnt cs ws (l++[p])=(cnt cs ws l).set p.Cell.toNat ((cnt cs ws l).getD p.Cell.toNat 0+((ubB cs ws p.Cell p.Nth).Text.size:Int)):=by unfold cnt;rw [List.foldl_append];rfl
theorem Wt(l:List aa):(cnt cs ws l).length=cs.length:=by
 unfold cnt;suffices h:∀(l:List aa) (h0:List Int),(l.foldl (fun h0 p=>h0.set p.Cell.toNat (h0.getD p.Cell.toNat 0+((ubB cs ws p.Cell p.Nth).Text.size:Int))) h0).length=h0.length by rw [h];simp
 intro l;induction l with
 |nil=>intro h0;rfl
 |cons p r ih=>intro h0;rw [List.foldl_cons,ih];simp
theorem u0d(hz:∀p:aa,(ubB cs ws p.Cell p.Nth).Text.size≤1024)(l:List aa)(j:Nat)(v:Int)(h:(cnt cs ws l)[j]?=some v):0≤v∧v≤1024*(l.length:Int):=by
 unfold cnt at h
 suffices hh:∀(l:List aa) (h0:List Int) (K:Nat),(∀(j:Nat) (v:Int),h0[j]?=some v→0≤v∧v≤1024*(K:Int))→∀(j:Nat) (v:Int),(l.foldl (fun h0 p=>h0.set p.Cell.toNat (h0.getD p.Cell.toNat 0+((ubB cs ws p.Cell p.Nth).Text.size:Int))) h0)[j]?=some v→0≤v∧v≤1024*((K+l.length:Nat):Int) by
  have:=hh l (List.replicate cs.length 0) 0 (fun j v hv=>by
  have:=List.mem_of_getElem? hv
  have:=List.eq_of_mem_replicate this
  subst this;simp) j v h
  simpa using this
 intro l;induction l with
 |nil=>intro h0 K ha j v hv;simpa using ha j v hv
 |cons p r ih=>
  intro h0 K ha j v hv;rw [List.foldl_cons]at hv
  have:=ih _ (K+1) (fun j v hv=>by
 rw [List.getElem?_set]at hv
 split at hv
 ·split at hv
  ·injection hv with hv
   subst hv
   have h1:=hz p
   have h2:0≤h0.getD p.Cell.toNat 0∧h0.getD p.Cell.toNat 0≤1024*(K:Int):=by
    rw [gD];cases hc:h0[p.Cell.toNat]? with
    |none=>exact⟨Int.le_refl _,by show(0:Int)≤1024*(K:Int);omega⟩
    |some u=>exact ha _ u hc
   constructor
   ·omega
   ·push_cast;omega
  ·cases hv
 ·have:=ha j v hv
  constructor
  ·exact this.1
  ·push_cast;omega) j v hv
  rw [show(K+1+r.length:Nat)=K+(p::r).length by simp;omega]at this;exact this
theorem r0z(s:ByteArray)(j:Nat):∀b∈cy s j,b.Text.size≤s.size:=fun b hb=>by unfold cy at hb;obtain⟨i,_,rfl⟩:=List.mem_map.1 hb;unfold ent;simp [ByteArray.size_extract];omega
theorem k0a(s:ByteArray):(aq s).size≤s.size:=by
 unfold aq;split
 ·simp [ByteArray.size_extract];omega
 ·exact zl
theorem d0v(t:ByteArray):∀b∈scL t,b.Text.size≤t.size:=fun b hb=>by
 unfold scL at hb;split at hb
 ·unfold brL at hb;split at hb
  ·exact Nat.le_trans (r0z _ _ b hb) (k0a t)
  ·simp at hb
 ·simp at hb
theorem Se{k:Nat}(hk:k <cs.length)(h:au cs ws=0):(ar cs ws k).size≤1024:=by obtain⟨_,_,h2,h3,_⟩:=jz h;refine Tm _ _ _ _ _ (fun p hp=>(Be h3 p hp).2.2) ?_;rw [Int.toNat_natCast,gD,gE hk];exact Xa h2 _ (by simp)
theorem Bh{pc pn:Int}(h:ubE cs ws pc pn=0):2≤pc∧pc <cs.length∧0≤pn:=by
 by_cases ho:pc <2∨(cs.length:Int)≤pc∨pn <0
 ·rw [ud ho]at h;cases h
 ·omega
theorem sg(h:au cs ws=0)(pc pn:Int):(ubB cs ws pc pn).Text.size≤1024:=by
 unfold ubB;split
 ·rename_i he;obtain⟨h1,h2,h3⟩:=Bh he;obtain⟨k,rfl⟩:∃k:Nat,pc=k:=⟨pc.toNat,by omega⟩;rw [gD];cases hc:(scL (ar cs ws k))[pn.toNat]? with
  |none=>exact zl
  |some b=>exact Nat.le_trans (d0v _ b (List.mem_of_getElem? hc)) (Se (by omega) h)
 ·exact zl
open Classical in
noncomputable def ucE(cs:List ByteArray)(ws:List ae)(xs:List aa)(gs:List Int):Int:=if au cs ws≠0 then au cs ws else if bu xs gs≠0 then bu xs gs else if ix cs ws xs gs 48 then 0 else 18
noncomputable def ucL(cs:List ByteArray)(ws:List ae)(xs:List aa)(gs:List Int):List Int:=if ucE cs ws xs gs=0 then cnt cs ws (alL cs ws xs 48)else []
theorem Nf(h:au cs ws≠0):ucE cs ws xs gs=au cs ws:=if_pos h
theorem a0q(h:au cs ws=0)(h2:bu xs gs≠0):ucE cs ws xs gs=bu xs gs:=by unfold ucE;rw [if_neg (fun g=>g h),if_pos h2]
theorem Nd(h:au cs ws=0)(h2:bu xs gs=0)(h3:¬ix cs ws xs gs 48):ucE cs ws xs gs=18:=by unfold ucE;rw [if_neg (fun g=>g h),if_neg (fun g=>g h2),if_neg h3]
theorem Nc(h:au cs ws=0)(h2:bu xs gs=0)(h3:ix cs ws xs gs 48):ucE cs ws xs gs=0∧ucL cs ws xs gs=cnt cs ws (alL cs ws xs 48):=by
 have e:ucE cs ws xs gs=0:=by unfold ucE;rw [if_neg (fun g=>g h),if_neg (fun g=>g h2),if_pos h3]
 exact⟨e,by unfold ucL;rw [if_pos e]⟩
theorem a0r{e:Int}(h:ucE cs ws xs gs=e)(h0:e≠0):ucL cs ws xs gs=[]:=by unfold ucL;rw [if_neg (by rw [h];exact h0)]
end
def pw(x:Int):Int:=if 0 <x then 2^(15-x).toNat else 0
def iz(l:List Int):Int:=(l.map pw).sum
def vd(x:Int):Bool:=decide (0≤x)&&decide (x≤15)
def gk(l:List Int):Int:=if 320 <l.length then 2 else if l.all vd then 0 else 1
def gz(l:List Int):Int:=if 320 <l.length then 0 else if l.all vd then iz l else 0
theorem uy{x:Int}(h1:0≤x)(h2:x≤15):0≤pw x∧pw x≤16384:=by
 unfold pw;split
 ·have:x=1∨x=2∨x=3∨x=4∨x=5∨x=6∨x=7∨x=8∨x=9∨x=10∨x=11∨x=12∨x=13∨x=14∨x=15:=by omega
  rcases this with rfl|rfl|rfl|rfl|rfl|rfl|rfl|rfl|rfl|rfl|rfl|rfl|rfl|rfl|rfl<;>decide
 ·decide
theorem q0j(a b:List Int):iz (a++b)=iz a+iz b:=by simp [iz]
theorem q0h(l:List Int)(k:Nat)(x:Int)(h:l[k]?=some x):iz (l.take (k+1))=iz (l.take k)+pw x:=by rw [List.take_add_one,h,q0j];simp [iz]
theorem Id(x:Int):vd x=true↔0≤x∧x≤15:=by simp [vd]
theorem Vg(l:List Int):(∀x∈l,0≤x∧x≤15)∨∃(j:Nat) (x:Int),l[j]?=some x∧(x <0∨15 <x)∧∀(i:Nat) (y:Int),i <j→l[i]?=some y→0≤y∧y≤15:=by
 induction l with
 |nil=>left;simp
 |cons a l ih=>
  by_cases ha:0≤a∧a≤15
  ·rcases ih with h|⟨j,x,h1,h2,h3⟩
   ·left;intro x hx;rcases List.mem_cons.1 hx with rfl|hx
    ·exact ha
    ·exact h x hx
   ·right;refine⟨j+1,x,by simpa using h1,h2,fun i y hi hy=>?_⟩;cases i with
    |zero=>simp at hy;subst hy;exact ha
    |succ i=>exact h3 i y (by omega) (by simpa using hy)
  ·right;exact⟨0,a,rfl,by omega,fun i y hi=>by omega⟩
theorem Jw{l:List Int}(h:320 <l.length):gz l=0∧gk l=2:=by simp [gz,gk,h]
theorem Jv{l:List Int}(h:l.length≤320)(ha:∀x∈l,0≤x∧x≤15):gz l=iz l∧gk l=0:=by
 have:l.all vd=true:=by rw [List.all_eq_true];intro x hx;exact(Id x).2 (ha x hx)
 simp only [gz,gk,this,if_neg (show ¬320 <l.length by omega),if_pos,and_self]
theorem Vh{l:List Int}(h:l.length≤320){j:Nat}{x:Int}(hj:l[j]?=some x)(hx:x <0∨15 <x):gz l=0∧gk l=1:=by
 have:l.all vd=false:=by rw [List.all_eq_false];exact⟨x,List.mem_of_getElem? hj,by rw [Id];omega⟩
 simp [gz,gk,this,if_neg (show ¬320 <l.length by omega)]
theorem Qj(s x:Int)(h1:0 <x)(h2:x≤15)(h3:0≤s)(h4:s≤16384*320):wrap64 (s+wrap64 (2^(15-x).toNat))=s+pw x:=by
 have:=uy (Int.le_of_lt h1) h2;have e:pw x=2^(15-x).toNat:=by unfold pw;rw [if_pos h1]
 rw [←e];unfold wrap64;omega
def m8(w:Int)(l:List Int):Int:=(l.map fun x=>if w <x then pw x else 0).sum
def fat(w:Int)(l:List Int):Int:=(l.map fun x=>if x=w then pw x else 0).sum
theorem r0q(l:List Int)(h:∀x∈l,0≤x∧x≤15):m8 15 l=0:=by
 induction l with
 |nil=>rfl
 |cons a l ih=>have h1:=ih (fun x hx=>h x (by simp [hx]));have h2:=(h a (by simp)).2;simp only [m8,List.map_cons,List.sum_cons]at*;rw [if_neg (by omega),h1];rfl
theorem r0s(l:List Int)(h:∀x∈l,0≤x∧x≤15):m8 (-1) l=iz l:=by
 induction l with
 |nil=>rfl
 |cons a l ih=>have h1:=ih (fun x hx=>h x (by simp [hx]));have h2:=(h a (by simp)).1;simp only [m8,iz,List.map_cons,List.sum_cons]at*;rw [if_pos (by omega),h1]
theorem r0r(l:List Int)(w:Int):m8 (w-1) l=m8 w l+fat w l:=by
 induction l with
 |nil=>rfl
 |cons a l ih=>
  simp only [m8,fat,List.map_cons,List.sum_cons]at*;rw [ih];by_cases h1:a=w
  ·subst h1;rw [if_pos (by omega),if_neg (by omega),if_pos rfl];omega
  ·by_cases h2:w <a
   ·rw [if_pos (by omega),if_pos h2,if_neg h1];omega
   ·rw [if_neg (by omega),if_neg h2,if_neg h1];omega
theorem r0k(w:Int)(l:List Int)(k:Nat)(x:Int)(h:l[k]?=some x):fat w (l.take (k+1))=fat w (l.take k)+if x=w then pw x else 0:=by rw [List.take_add_one,h];simp [fat]
theorem r0t(w:Int)(l:List Int)(h:∀x∈l,0≤x∧x≤15):0≤m8 w l∧m8 w l≤16384*l.length:=by
 induction l with
 |nil=>simp [m8]
 |cons a l ih=>have h1:=ih (fun x hx=>h x (by simp [hx]));have h3:=uy (h a (by simp)).1 (h a (by simp)).2;simp only [m8,List.map_cons,List.sum_cons,List.length_cons]at*;split<;>omega
theorem g0z(s x:Int)(h1:0 <x):s+2^(15-x).toNat=s+pw x:=by unfold pw;rw [if_pos h1]
def d7(w:Int)(l:List Int):Int:=(l.map fun x=>if 0 <x∧x <w then 2^(w-x).toNat else 0).sum
def bp(w:Int)(l:List Int):Int:=(l.map fun x=>if x=w then 1 else 0).sum
def pf(w:Int)(l:List Int):Int:=(l.map fun x=>if 0 <x∧x <w then 2^(15-x).toNat else 0).sum
theorem vr(w a:Int)(l:List Int):d7 w (a::l)=(if 0 <a∧a <w then 2^(w-a).toNat else 0)+d7 w l:=by simp [d7]
theorem xg(w a:Int)(l:List Int):bp w (a::l)=(if a=w then 1 else 0)+bp w l:=by simp [bp]
theorem x0p(w a:Int)(l:List Int):pf w (a::l)=(if 0 <a∧a <w then 2^(15-a).toNat else 0)+pf w l:=by simp [pf]
theorem qh(w:Int)(l:List Int)(k:Nat)(x:Int)(h:l[k]?=some x):bp w (l.take (k+1))=bp w (l.take k)+if x=w then 1 else 0:=by rw [List.take_add_one,h];simp [bp]
theorem mr(w:Int)(l:List Int):0≤bp w l∧bp w l≤l.length:=by
 induction l with
 |nil=>simp [bp]
 |cons a l ih=>rw [xg,List.length_cons];split<;>omega
theorem Tc(l:List Int):d7 1 l=0:=by
 induction l with
 |nil=>rfl
 |cons a l ih=>rw [vr,ih,if_neg (by omega)];rfl
theorem h0q{a w:Int}(h:a <w+1)(_:¬a=w):(2:Int)^(w+1-a).toNat=2*2^(w-a).toNat:=by rw [show(w+1-a).toNat=(w-a).toNat+1 by omega,Int.pow_succ];omega
theorem Tb(w:Int)(hw:0 <w)(l:List Int):d7 (w+1) l=2*(d7 w l+bp w l):=by
 induction l with
 |nil=>rfl
 |cons a l ih=>
  rw [vr,vr,xg,ih];by_cases h:a=w
  ·subst h;rw [if_pos (by omega),if_neg (by omega),if_pos rfl,show(a+1-a).toNat=1 by omega];omega
  ·rw [if_neg h];by_cases h1:0 <a∧a <w
   ·rw [if_pos (by omega),if_pos h1,h0q (by omega) h];omega
   ·rw [if_neg (by omega),if_neg h1];omega
theorem Qx{a w:Int}(h:a <w)(hw:w≤15):(2:Int)^(15-a).toNat=2^(15-w).toNat*2^(w-a).toNat:=by rw [←Int.pow_add];congr 1;omega
theorem x0n(w:Int)(hw:w≤15)(l:List Int):pf w l=2^(15-w).toNat*d7 w l:=by
 induction l with
 |nil=>simp [pf,d7]
 |cons a l ih=>
  rw [x0p,vr,ih,Int.mul_add];by_cases h1:0 <a∧a <w
  ·rw [if_pos h1,if_pos h1,Qx h1.2 hw]
  ·rw [if_neg h1,if_neg h1];simp
theorem zk(w:Int)(l:List Int):0≤d7 w l:=by
 induction l with
 |nil=>simp [d7]
 |cons a l ih=>rw [vr];have:(0:Int) <2^(w-a).toNat:=Int.pow_pos (by decide);split<;>omega
theorem T9(w:Int)(hw0:0 <w)(hw:w≤15)(l:List Int)(hl:∀x∈l,0≤x∧x≤15):2^(15-w).toNat*(d7 w l+bp w l)≤iz l:=by
 induction l with
 |nil=>simp [d7,bp,iz]
 |cons a l ih=>
  have h1:=ih (fun x hx=>hl x (by simp [hx]));have h2:=hl a (by simp);have h3:=uy h2.1 h2.2;have hf:iz (a::l)=pw a+iz l:=by simp [iz]
  rw [vr,xg,hf]
  have h0:(2:Int)^(15-w).toNat*((if 0 <a∧a <w then 2^(w-a).toNat else 0)+(if a=w then 1 else 0))≤pw a:=by
   by_cases ha:0 <a∧a <w
   ·rw [if_pos ha,if_neg (by omega),Int.add_zero,←Qx ha.2 hw];unfold pw;rw [if_pos ha.1];exact Int.le_refl _
   ·rw [if_neg ha];by_cases e:a=w
    ·subst e;rw [if_pos rfl];unfold pw;rw [if_pos hw0];simp
    ·rw [if_neg e];simpa using h3.1
  rw [show ∀p q r s:Int,p+q+(r+s)=(p+r)+(q+s)from fun p q r s=>by omega,Int.mul_add];omega
def Dh:List Int→Int
 | []=>0
 |f::r=>if f <0 then 1 else if 1048576 <f then 2 else Dh r
def V1(l:List Int):Int:=if 320 <l.length then 2 else Dh l
theorem q0n{l:List Int}(h:Dh l=0):∀x∈l,0≤x∧x≤1048576:=by
 induction l with
 |nil=>simp
 |cons a r ih=>
  simp only [Dh]at h;by_cases h0:a <0
  ·rw [if_pos h0]at h;cases h
  ·rw [if_neg h0]at h;by_cases h1:1048576 <a
   ·rw [if_pos h1]at h;cases h
   ·rw [if_neg h1]at h;intro x hx;rcases List.mem_cons.1 hx with rfl|hx
    ·omega
    ·exact ih h x hx
theorem x0t{l:List Int}(h:V1 l=0):l.length≤320∧∀x∈l,0≤x∧x≤1048576:=by
 unfold V1 at h;split at h
 ·cases h
 ·exact⟨by omega,q0n h⟩
theorem Jx{l:List Int}(h:gk l=0):l.length≤320∧∀x∈l,0≤x∧x≤15:=by
 unfold gk at h;split at h
 ·cases h
 ·split at h
  ·rename_i h1;exact⟨by omega,fun x hx=>(Id x).1 (List.all_eq_true.1 h1 x hx)⟩
  ·cases h
def dp(l:List Int)(i:Nat)(w:Int):Int:=if 0 <w then d7 w l+bp w (l.take i)else 0
def lu(l:List Int):Nat→List Int
 |0=>[]
 |k+1=>lu l k++[dp l k (l.getD k 0)]
theorem u0s{l:List Int}{k:Nat}{x:Int}(h:l[k]?=some x):lu l (k+1)=lu l k++[dp l k x]:=by simp [lu,h]
theorem xj(l:List Int)(k:Nat):(lu l k).length=k:=by
 induction k with
 |zero=>rfl
 |succ k ih=>simp [lu,ih]
def dt(l:List Int):Int:=if gk l≠0 then gk l else if 32768 <gz l then 6 else 0
def o8(l:List Int):List Int:=if dt l=0 then lu l l.length else []
theorem Ae{l:List Int}(h:gk l≠0):dt l=gk l∧o8 l=[]:=by
 have e:dt l=gk l:=by unfold dt;rw [if_pos h]
 exact⟨e,by unfold o8;rw [e,if_neg h]⟩
theorem Kq{l:List Int}(h:gk l=0)(h2:32768 <gz l):dt l=6∧o8 l=[]:=by
 have e:dt l=6:=by unfold dt;rw [if_neg (by simp [h]),if_pos h2]
 exact⟨e,by unfold o8;rw [e];rfl⟩
theorem Xj{l:List Int}(h:gk l=0)(h2:¬32768 <gz l):dt l=0∧o8 l=lu l l.length:=by
 have e:dt l=0:=by unfold dt;rw [if_neg (by simp [h]),if_neg h2]
 exact⟨e,by unfold o8;rw [if_pos e]⟩
def ahd(l:List Int)(i:Nat)(w:Int)(j:Nat):Int:=pf w (l.take j)+(if 0 <w then 2^(15-w).toNat*bp w (l.take (min i j))else 0)
theorem x0h(l:List Int)(i:Nat)(w:Int):ahd l i w 0=0:=by simp [ahd,pf,bp]
theorem Lj(w:Int){l:List Int}{j:Nat}{v:Int}(h:l[j]?=some v):pf w (l.take (j+1))=pf w (l.take j)+(if 0 <v∧v <w then 2^(15-v).toNat else 0):=by rw [List.take_add_one,h];simp [pf]
theorem x0k{l:List Int}{i:Nat}{w:Int}{j:Nat}{v:Int}(h:l[j]?=some v)(h0:0 <v)(h1:v <w):ahd l i w (j+1)=ahd l i w j+2^(15-v).toNat:=by
 unfold ahd;rw [Lj w h,if_pos ⟨h0,h1⟩]
 have:bp w (l.take (min i (j+1)))=bp w (l.take (min i j)):=by
  by_cases hj:j <i
  ·rw [show min i (j+1)=j+1 by omega,show min i j=j by omega,qh w l j v h,if_neg (by omega)];omega
  ·rw [show min i (j+1)=i by omega,show min i j=i by omega]
 rw [this];omega
theorem x0j{l:List Int}{i:Nat}{w:Int}{j:Nat}(h:l[j]?=some w)(h0:0 <w)(hj:j <i):ahd l i w (j+1)=ahd l i w j+2^(15-w).toNat:=by unfold ahd;rw [Lj w h,if_neg (by omega),if_pos h0,if_pos h0,show min i (j+1)=j+1 by omega,show min i j=j by omega,qh w l j w h,if_pos rfl,Int.mul_add];omega
theorem Lh{l:List Int}{i:Nat}{w:Int}{j:Nat}{v:Int}(h:l[j]?=some v)(hn:¬(0 <v∧(v <w∨(v=w∧j <i)))):ahd l i w (j+1)=ahd l i w j:=by
 unfold ahd;rw [Lj w h,if_neg (by omega)];by_cases h0:0 <w
 ·rw [if_pos h0,if_pos h0];by_cases hj:j <i
  ·rw [show min i (j+1)=j+1 by omega,show min i j=j by omega,qh w l j v h,if_neg (by omega)];simp
  ·rw [show min i (j+1)=i by omega,show min i j=i by omega];omega
 ·rw [if_neg h0,if_neg h0];omega
theorem x0m{l:List Int}{i:Nat}{w:Int}(hi:i≤l.length)(h0:0 <w)(h1:w≤15):ahd l i w l.length=2^(15-w).toNat*dp l i w:=by unfold ahd dp;rw [List.take_length,if_pos h0,if_pos h0,show min i l.length=i by omega,x0n w h1,←Int.mul_add]
theorem Wr(l:List Int)(i:Nat)(w:Int):0≤dp l i w:=by
 unfold dp;split
 ·have:=zk w l;have:=(mr w (l.take i)).1;omega
 ·omega
theorem I2{v:Int}(h0:0≤v)(h1:v≤15):(1:Int)≤2^(15-v).toNat∧(2:Int)^(15-v).toNat≤32768:=by
 have:v=0∨v=1∨v=2∨v=3∨v=4∨v=5∨v=6∨v=7∨v=8∨v=9∨v=10∨v=11∨v=12∨v=13∨v=14∨v=15:=by omega
 rcases this with rfl|rfl|rfl|rfl|rfl|rfl|rfl|rfl|rfl|rfl|rfl|rfl|rfl|rfl|rfl|rfl<;>decide
theorem s0s{p c:Int}(hp:1≤p)(hc:0≤c):(p*c).tdiv p=c:=by rw [Int.tdiv_eq_ediv_of_nonneg (Int.mul_nonneg (by omega) hc),Int.mul_ediv_cancel_left _ (by omega)]
def jf:List Int→Int
 | []=>0
 |x::r=>x+2*jf r
def fk(c:Int):Nat→List Int
 |0=>[]
 |k+1=>(c/2^k%2)::fk c k
theorem Wg(c:Int):∀k,(fk c k).length=k
 |0=>rfl
 |k+1=>by simp [fk,Wg c k]
theorem Jj:∀l:List Int,(∀x∈l,0≤x∧x≤1)→0≤jf l∧jf l <2^l.length
 | [],_=>by simp [jf]
 |x::r,h=>by have h1:=h x (by simp);have ih:=Jj r (fun y hy=>h y (by simp [hy]));simp only [jf,List.length_cons,Int.pow_succ];omega
def wd(l:List Int)(s:Int):Int:=l.getD s.toNat 0
theorem xa{l:List Int}(h:dt l=0):∀x∈l,0≤x∧x≤15:=by
 by_cases hf:gk l=0
 ·exact(Jx hf).2
 ·rw [(Ae hf).1]at h;exact absurd h hf
end
section
open Go.RowKit Go.PlainAid
def tb(s:ByteArray)(i:Nat):Int:=bt s (i/8)/2^(i%8)%2
theorem yc(s:ByteArray)(i:Nat):0≤tb s i∧tb s i≤1:=by unfold tb;omega
def tn(s:ByteArray)(a:Nat):Nat→Int
 |0=>0
 |w+1=>tn s a w+tb s (a+w)*2^w
theorem yb(s:ByteArray)(a:Nat):∀w,0≤tn s a w∧tn s a w <2^w
 |0=>by simp [tn]
 |w+1=>by have ih:=yb s a w;have h:=yc s (a+w);have hp:(0:Int) <2^w:=Int.pow_pos (by decide);simp only [tn,Int.pow_succ];rcases(show tb s (a+w)=0∨tb s (a+w)=1 by omega)with e|e<;>rw [e]<;>omega
theorem Nq(s:ByteArray)(a m:Nat):∀n,tn s a (m+n)=tn s a m+tn s (a+m) n*2^m
 |0=>by simp [tn]
 |n+1=>by have ih:=Nq s a m n;have e:tn s a (m+(n+1))=tn s a (m+n)+tb s (a+(m+n))*2^(m+n):=rfl;rw [e,ih];simp only [tn];rw [show a+m+n=a+(m+n) by omega,Int.add_mul,Int.pow_add,Int.mul_assoc _ (2^n) (2^m),Int.mul_comm (2^n) (2^m)];omega
theorem m0d(x:Int)(k:Nat):x%2^(k+1)=x%2^k+x/2^k%2*2^k:=by
 have hp:(0:Int) <2^k:=Int.pow_pos (by decide);rw [Int.pow_succ];have h1:=Int.emod_add_mul_ediv x (2^k);have h2:=Int.emod_add_mul_ediv (x/2^k) 2;have h3:=Int.emod_nonneg x (show(2:Int)^k≠0 by omega);have h4:=Int.emod_lt_of_pos x hp
 have h5:x=(x%2^k+x/2^k%2*2^k)+(2^k*2)*(x/2^k/2):=by
  have e:x/2^k=x/2^k%2+2*(x/2^k/2):=h2.symm
  have e2:2^k*(x/2^k)=x/2^k%2*2^k+2^k*2*(x/2^k/2):=by
   conv=>lhs;rw [e]
   rw [Int.mul_add,Int.mul_comm (2^k) (x/2^k%2),Int.mul_assoc]
  omega
 have h6:=Int.emod_nonneg (x/2^k) (show(2:Int)≠0 by decide);have h7:=Int.emod_lt_of_pos (x/2^k) (show(0:Int) <2 by decide)
 have h8:0≤x%2^k+x/2^k%2*2^k∧x%2^k+x/2^k%2*2^k <2^k*2:=by rcases(show x/2^k%2=0∨x/2^k%2=1 by omega)with e|e<;>rw [e]<;>omega
 conv=>lhs;rw [h5]
 rw [Int.add_mul_emod_self_left];exact Int.emod_eq_of_lt h8.1 h8.2
theorem W0(x:Int)(a b:Nat):x/2^a/2^b=x/2^(a+b):=by rw [Int.ediv_ediv_of_nonneg (Int.le_of_lt (Int.pow_pos (by decide))),←Int.pow_add]
theorem Np(s:ByteArray)(a:Nat):∀t,a%8+t≤8→tn s a t=bt s (a/8)/2^(a%8)%2^t
 |0,_=>by simp [tn,Int.emod_one]
 |t+1,h=>by have ih:=Np s a t (by omega);simp only [tn];rw [ih,m0d,W0];unfold tb;rw [show(a+t)/8=a/8 by omega,show(a+t)%8=a%8+t by omega]
def tbL(s:ByteArray):List Int:=(List.range (8*s.size)).map (tb s)
theorem px(s:ByteArray):(tbL s).length=8*s.size:=by simp [tbL]
theorem Ur:∀(l:List Int) (x:Int),jf (l++[x])=jf l+x*2^l.length
 | [],x=>by simp [jf]
 |y::r,x=>by simp only [List.cons_append,jf,List.length_cons,Ur r x,Int.pow_succ];rw [←Int.mul_assoc];generalize x*2^r.length=z;omega
theorem Uq(s:ByteArray)(a:Nat):∀w,jf ((List.range w).map fun j=>tb s (a+j))=tn s a w
 |0=>rfl
 |w+1=>by rw [List.range_succ,List.map_append,List.map_cons,List.map_nil,Ur,Uq s a w];simp [tn]
theorem Ns(s:ByteArray)(a w:Nat)(h:a+w≤8*s.size):((tbL s).drop a).take w=(List.range w).map fun j=>tb s (a+j):=by
 apply List.ext_getElem?;intro i;by_cases hi:i <w
 ·rw [List.getElem?_take,if_pos hi,List.getElem?_drop];unfold tbL;rw [List.getElem?_map,List.getElem?_range (by omega),List.getElem?_map,List.getElem?_range hi];rfl
 ·rw [List.getElem?_eq_none (by rw [List.length_take];omega),List.getElem?_eq_none (by simp;omega)]
theorem Us(s:ByteArray)(a w:Nat)(h:a+w≤8*s.size):jf (((tbL s).drop a).take w)=tn s a w:=by rw [Ns s a w h,Uq]
theorem G7(s:ByteArray):∀x∈tbL s,0≤x∧x≤1:=fun x hx=>by obtain⟨i,_,rfl⟩:=List.mem_map.1 hx;exact yc s i
end
end Go.Proofs.YtcldpfhpkbeaiadGreat
