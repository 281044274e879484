/- A part of the proof of FsMounts. No condition of ours. -/
import Derived.Test.YtcldpfhpkbeaiadGreatFsMounts06
import Derived.Deep.RegionHeldLaw
set_option maxRecDepth 200000
set_option maxHeartbeats 4000000
namespace Go.Proofs.YtcldpfhpkbeaiadGreat
section
open Go.RowKit
def xv(xs:List aa)(i:Nat):Prop:=∃p,xs[i]?=some p∧dk p.Cell p.Nth=true
def x0r(xs:List aa)(i:Nat):Prop:=∃p,xs[i]?=some p∧dk p.Cell p.Nth=false
theorem Cz(xs:List aa):∃J,J≤xs.length∧(∀i,i <J→xv xs i)∧(J <xs.length→x0r xs J):=
 Vf xs.length fun i hi=>by
  have e1:=gE (l:=xs) (i:=i) hi;cases hr:dk xs[i].Cell xs[i].Nth
  ·exact .inr ⟨_,e1,hr⟩
  ·exact .inl ⟨_,e1,hr⟩
open Classical in
noncomputable def ez(k g s:Int)(xs:List aa):Int:=
 if(k≠1∧k≠2)∨g <0∨2147483647 <g then 1 else if s <0∨4096 <s then 2
 else if(xs.length:Int)=(s+511)/512∧∀i,i <xs.length→xv xs i then 0 else 4
theorem np{k g s:Int}{xs:List aa}(h:(k≠1∧k≠2)∨g <0∨2147483647 <g):ez k g s xs=1:=by unfold ez;rw [if_pos h]
theorem rp{k g s:Int}{xs:List aa}(h:¬((k≠1∧k≠2)∨g <0∨2147483647 <g))(h2:s <0∨4096 <s):ez k g s xs=2:=by unfold ez;rw [if_neg h,if_pos h2]
theorem rq{k g s:Int}{xs:List aa}(h:¬((k≠1∧k≠2)∨g <0∨2147483647 <g))(h2:¬(s <0∨4096 <s))(h3:¬((xs.length:Int)=(s+511)/512∧∀i,i <xs.length→xv xs i)):ez k g s xs=4:=by unfold ez;rw [if_neg h,if_neg h2,if_neg h3]
theorem D6{k g s:Int}{xs:List aa}(h:¬((k≠1∧k≠2)∨g <0∨2147483647 <g))(h2:¬(s <0∨4096 <s))(h3:(xs.length:Int)=(s+511)/512)(h4:∀i,i <xs.length→xv xs i):ez k g s xs=0:=by unfold ez;rw [if_neg h,if_neg h2,if_pos ⟨h3,h4⟩]
theorem D5{k g s:Int}{xs:List aa}(h:ez k g s xs=0):(k=1∨k=2)∧0≤g∧g≤2147483647∧0≤s∧s≤4096∧(xs.length:Int)=(s+511)/512∧∀i,i <xs.length→xv xs i:=by
 unfold ez at h;by_cases a:(k≠1∧k≠2)∨g <0∨2147483647 <g
 ·rw [if_pos a]at h;cases h
 ·rw [if_neg a]at h;by_cases b:s <0∨4096 <s
  ·rw [if_pos b]at h;cases h
  ·rw [if_neg b]at h;by_cases c:(xs.length:Int)=(s+511)/512∧∀i,i <xs.length→xv xs i
   ·exact⟨by omega,by omega,by omega,by omega,by omega,c.1,c.2⟩
   ·rw [if_neg c]at h;cases h
def lj:List aa→List Int
 | []=>[]
 |p::r=>p.Cell::p.Nth::lj r
def zp(k g s:Int)(xs:List aa):List Int:=cb 1 k++cb 4 g++cb 2 s++lj xs
theorem Rc(a b:List aa):lj (a++b)=lj a++lj b:=by
 induction a with
 |nil=>rfl
 |cons p r ih=>simp [lj,ih]
theorem j0e(xs:List aa)(k:Nat)(p:aa)(h:xs[k]?=some p):lj (xs.take (k+1))=lj (xs.take k)++[p.Cell,p.Nth]:=by rw [List.take_add_one,h,Rc];rfl
theorem tg{c:Int}(h0:0≤c)(h1:c≤255):ir 1 c=[c]:=by unfold ir;rw [if_pos (by omega)];simp [cb];omega
theorem r0c{c n:Int}(h0:0≤c)(h1:c≤255)(h2:0≤n)(h3:n≤255):ir 2 (c*256+n)=[c,n]:=by unfold ir;rw [if_pos (by omega)];simp [cb];omega
theorem Pz{c n:Int}(h:dk c n=true):0≤c∧c≤127∧0≤n∧n≤39:=by
 have:dz c n:=by simpa [dk]using h
 unfold dz at this;omega
end
section
open Go.RowKit Go.PlainAid
theorem Rv(k i n:Int)(t:ByteArray)(w:World)(h:ge k i n t=0):Calls Tryz.prog 149 #[.agg #[.int .i64 k,.int .i64 i,.int .i64 n,.string t]] w fun e w'=>e= .returned (.string (strOfNums (lk k i n t)))∧Below w.heap.size w w':=by
 obtain⟨k0,k1,i0,i1,n0,n1,hz⟩:=Ah h;clear h;have u1:IntKind.u64.wrap k=k:=by rw [IntKind.wrap_u64];omega
 have u2:IntKind.u64.wrap i=i:=by rw [IntKind.wrap_u64];omega
 have u3:IntKind.u64.wrap n=n:=by rw [IntKind.wrap_u64];omega
 have u4:IntKind.u64.wrap (t.size:Int)=(t.size:Int):=by rw [IntKind.wrap_u64];omega
 have D1:Hid (∀W,Calls Tryz.prog 104 #[.int .u64 k,.int .i64 1] W fun e w'=>e= .returned (.string (strOfNums [k]))∧Below W.heap.size W w'):=fun W=>by have:=ky k 1 W (by omega) (by omega) (by omega) (by omega);rwa [tg (by omega) (by omega)]at this
 have D2:Hid (∀W,Calls Tryz.prog 104 #[.int .u64 i,.int .i64 1] W fun e w'=>e= .returned (.string (strOfNums [i]))∧Below W.heap.size W w'):=fun W=>by have:=ky i 1 W (by omega) (by omega) (by omega) (by omega);rwa [tg (by omega) (by omega)]at this
 have D3:Hid (∀W,Calls Tryz.prog 104 #[.int .u64 n,.int .i64 1] W fun e w'=>e= .returned (.string (strOfNums [n]))∧Below W.heap.size W w'):=fun W=>by have:=ky n 1 W (by omega) (by omega) (by omega) (by omega);rwa [tg (by omega) (by omega)]at this
 have D4:Hid (∀W,Calls Tryz.prog 159 #[.int .u64 (t.size:Int)] W fun e w'=>e= .returned (.string (strOfNums (k8 t.size)))∧Below W.heap.size W w'):=fun W=>h0a 9 _ W (by omega) (Vd (by omega) (by omega)) (by omega) (by omega)
 have hl:(k8 (t.size:Int)).length≤10:=(yt 9 _).1;have F:Hid (lk k i n t=[k,i,n]++(k8 t.size++btL t t.size)):=rfl;generalize k8 (t.size:Int)=PL at*;have c1:=fq (P:=Tryz.prog) [k] [i] (by simp);have c2:=fq (P:=Tryz.prog) [k,i] [n] (by simp);have c3:=fq (P:=Tryz.prog) [k,i,n] PL (by simp;omega);have c4:=Gj (P:=Tryz.prog) ([k,i,n]++PL) t (by simp;omega);rw [show [k]++[i]=[k,i]from rfl]at c1;rw [show [k,i]++[n]=[k,i,n]from rfl]at c2;rw [List.append_assoc,←F.o]at c4;simp only [List.cons_append,List.nil_append]at c3 c4;obtain⟨p0,p1,p2,p3⟩:=xp w (.int .i64 k) (.int .i64 i) (.int .i64 n) (.string t) 85
 have HS:(w.alloc (.cells #[.int .i64 k,.int .i64 i,.int .i64 n,.string t] 85)).cell? ⟨w.heap.size,0,none⟩=some (.int .i64 k)∧(w.alloc (.cells #[.int .i64 k,.int .i64 i,.int .i64 n,.string t] 85)).cell? ⟨w.heap.size,1,none⟩=some (.int .i64 i)∧(w.alloc (.cells #[.int .i64 k,.int .i64 i,.int .i64 n,.string t] 85)).cell? ⟨w.heap.size,2,none⟩=some (.int .i64 n)∧(w.alloc (.cells #[.int .i64 k,.int .i64 i,.int .i64 n,.string t] 85)).cell? ⟨w.heap.size,3,none⟩=some (.string t)∧w.heap.size+1≤(w.alloc (.cells #[.int .i64 k,.int .i64 i,.int .i64 n,.string t] 85)).heap.size∧Below w.heap.size w (w.alloc (.cells #[.int .i64 k,.int .i64 i,.int .i64 n,.string t] 85)):=
  ⟨p0,p1,p2,p3,by simp,br.alloc ler _⟩
 obtain⟨wa,h0⟩:∃wa,wa=w.alloc (.cells #[.int .i64 k,.int .i64 i,.int .i64 n,.string t] 85):=⟨_,rfl⟩;rw [←h0]at HS;have b0:w.heap.size <w.heap.size+1:=by omega
 clear p0 p1 p2 p3;go_enter Tryz.func149,Tryz.ntmps149;go_wp2;rw [←h0];clear h0
 go_region_held3 (fun W=>W.cell? ⟨w.heap.size,0,none⟩=some (.int .i64 k)∧W.cell? ⟨w.heap.size,1,none⟩=some (.int .i64 i)∧W.cell? ⟨w.heap.size,2,none⟩=some (.int .i64 n)∧W.cell? ⟨w.heap.size,3,none⟩=some (.string t)∧w.heap.size+1≤W.heap.size∧Below w.heap.size w W)
  (first|assumption|exact Tr (by assumption)|exact Ts b0 b0 b0 b0 (by assumption) (by assumption))
  (first
  |(go_at_call_of 104 (Value.int .u64 k);refine(D1.o _).mono ?_;rintro e w' ⟨rfl,hb⟩)
  |(go_at_call_of 104 (Value.int .u64 i);refine(D2.o _).mono ?_;rintro e w' ⟨rfl,hb⟩)
  |(go_at_call_of 104 (Value.int .u64 n);refine(D3.o _).mono ?_;rintro e w' ⟨rfl,hb⟩)
  |(go_at_call 159;refine(D4.o _).mono ?_;rintro e w' ⟨rfl,hb⟩))
 all_goals
  rename_i hHeld;have h1:=Tq hHeld;clear hHeld HS c1 c2 c3 c4 D1 D2 D3 D4;go_wp2;go_ret;exact⟨rfl,h1⟩
theorem Xq(A:Option Addr)(n c:Nat)(l:List bz)(w:World)(r:ab w w.heap.size A n c bz.cells 4 l):Calls Tryz.prog 121 #[.slice A n c,.bool false] w fun e w'=>e= .returned (.tuple #[.string (strOfNums (i9 l 0)),.int .i64 (gj l)])∧Below w.heap.size w w':=by
 have hg:=r.len;obtain rfl:=hg;by_cases hL:40 <l.length
 ·have F:=h_ (Kw 0 hL);have he:(40:Int) < (l.length:Int):=by omega
  go_enter Tryz.func121,Tryz.ntmps121;go_wp2;go_ret2;exact⟨em (by rw [F.o.2];rfl) F.o.1.symm,br⟩
 ·have he:(l.length:Int)≤40:=by omega
  have hh:l.length≤40:=by omega
  have HL:=h_ hL;clear hL;have u0:IntKind.u64.wrap (l.length:Int)=(l.length:Int):=by rw [IntKind.wrap_u64];omega
  have CF:Hid (∀W,Calls Tryz.prog 104 #[.int .u64 (l.length:Int),.int .i64 1] W fun e w'=>e= .returned (.string (strOfNums [(l.length:Int)]))∧Below W.heap.size W w'):=fun W=>by have:=ky (l.length:Int) 1 W (by omega) (by omega) (by omega) (by omega);rwa [tg (by omega) (by omega)]at this
  have h8:∀W:World,(Op.stringOp .add (⟨#[0]⟩:ByteArray) (strOfNums [(l.length:Int)])).run Tryz.prog W= .ok (.string (strOfNums [0,(l.length:Int)])) W:=fq (P:=Tryz.prog) [0] [(l.length:Int)] (by simp);go_enter Tryz.func121,Tryz.ntmps121;go_wp2;go_loopw [6,16] (fun v6 v16 wr=>∃(j:Nat) (T:List Int),j≤l.length∧T.length≤613*j∧Hid (T=iw (l.take j))∧Hid (fz l=fz (l.drop j))∧v16= .int .i64 j∧v6= .string (strOfNums T)∧Below w.heap.size w wr) (fun _ v16 _=>l.length- (intOf v16).toNat)
  case atStart=>exact⟨0,[],zl,by simp,rfl,rfl,rfl,rfl,br⟩
  case round=>
   obtain⟨j,T,hj,hk,hT,hC,rfl,rfl,hb⟩:=hrel;have ha:=hb.size;have hp:=strOfNums_size T;by_cases hlt:j <l.length
   ·have e1:=gE hlt;obtain⟨b,o,rfl,hr,hc⟩:=(r.below hb).at_ j _ e1;have h3:=hc 0 _ rfl;have h5:=hc 1 _ rfl;have h6:=hc 2 _ rfl;have h7:=hc 3 _ rfl;simp only [Nat.add_zero]at h3;obtain⟨pk,pi,pn,pt,h9⟩:∃pk pi pn pt,l[j]=(⟨pk,pi,pn,pt⟩:bz):=⟨_,_,_,_,rfl⟩;rw [h9]at e1 h3 h5 h6 h7;have h3:wr.cell? ⟨b,o+j*4,none⟩=some (.int .i64 pk):=h3;have h5:wr.cell? ⟨b,o+j*4+1,none⟩=some (.int .i64 pi):=h5;have h6:wr.cell? ⟨b,o+j*4+2,none⟩=some (.int .i64 pn):=h6;have h7:wr.cell? ⟨b,o+j*4+3,none⟩=some (.string pt):=h7;clear hc h9;have hm:b <wr.heap.size:=by omega
    have HK:Hid (∀W,Calls Tryz.prog 148 #[.agg #[.int .i64 pk,.int .i64 pi,.int .i64 pn,.string pt]] W fun e w'=>e= .returned (.int .i64 (ge pk pi pn pt))∧Below W.heap.size W w'):=fun W=>Yd pk pi pn pt W
    by_cases hE:ge pk pi pn pt=0
    ·obtain⟨k0,k1,i0,i1,n0,n1,hz⟩:=Ah hE;have G:Hid (fz l=fz (l.drop (j+1))):=hC.o.trans (Wz e1 hE);have GB:=h_ (Y8 e1);have hq:=Rx pk pi pn pt;have hf:Hid (∀W,Calls Tryz.prog 148 #[.agg #[.int .i64 pk,.int .i64 pi,.int .i64 pn,.string pt]] W fun e w'=>e= .returned (.int .i64 0)∧Below W.heap.size W w'):=fun W=>by have:=HK.o W;rw [hE]at this;exact this
     have HO:Hid (∀W,Calls Tryz.prog 149 #[.agg #[.int .i64 pk,.int .i64 pi,.int .i64 pn,.string pt]] W fun e w'=>e= .returned (.string (strOfNums (lk pk pi pn pt)))∧Below W.heap.size W w'):=fun W=>Rv pk pi pn pt W hE
     have c3:=fq (P:=Tryz.prog) T (lk pk pi pn pt) (by omega);generalize lk pk pi pn pt=OL at*;clear HK hE e1 h8
     go_wp2_with(first
      |(go_at_call 148;refine(hf.o _).mono ?_;rintro e w1 ⟨rfl,h0⟩;obtain⟨q0,q1,q2,q3,q4⟩:=Tp h0)
      |(go_at_call 149;refine(HO.o _).mono ?_;rintro e w2 ⟨rfl,hd⟩))
     go_roundw
     case rel=>exact⟨j+1,T++OL,by omega,by simp;omega,by simp only [Hid];rw [GB.o,hT.o],G,by go_num,rfl,((hb.alloc ha _).trans (h0.mono (by simp;omega))).trans (hd.mono (by omega))⟩
     case measure=>simp [intOf];omega
    ·have G:=h_ (Kx 0 HL.o hE (hC.o.trans (X6 e1 hE)));have hn:(ge pk pi pn pt !=0)=true:=bN hE;generalize ge pk pi pn pt=pe at*;clear hE e1 h8;go_wp2_with(go_at_call 148;refine(HK.o _).mono ?_;rintro e w1 ⟨rfl,h0⟩);go_ret2;exact⟨em (by rw [G.o.2];rfl) G.o.1.symm,(hb.alloc ha _).trans (h0.mono (by simp;omega))⟩
   ·have h2:T=iw l:=by rw [hT.o,List.take_of_length_le (by omega)]
    have h4:fz l=0:=hC.o.trans (X4 (by omega));by_cases hbig:998 < (iw l).length
    ·have G:=h_ (Ya 0 HL.o h4 hbig);have h1:(998:Int) < (T.length:Int):=by rw [h2];omega
     clear h4 hbig h2 h8;go_wp2;go_ret2;exact⟨em (by rw [G.o.2];rfl) G.o.1.symm,hb⟩
    ·have G:=h_ (Eh 0 HL.o h4 hbig);have h1:(T.length:Int)≤998:=by rw [h2];omega
     have HT:=h_ h2;have c3:=fq (P:=Tryz.prog) [0,(l.length:Int)] T (by simp;omega);clear h4 hbig h2;go_wp2_with(go_at_call 104;refine(CF.o _).mono ?_;rintro e w1 ⟨rfl,h0⟩);go_ret2;exact⟨em (by rw [G.o.2,HT.o];try rfl) G.o.1.symm,hb.trans (h0.mono hb.size)⟩
theorem Xp(A:Option Addr)(n c:Nat)(l:List bz)(w:World)(r:ab w w.heap.size A n c bz.cells 4 l):Calls Tryz.prog 121 #[.slice A n c,.bool true] w fun e w'=>e= .returned (.tuple #[.string (strOfNums (i9 l 1)),.int .i64 (gj l)])∧Below w.heap.size w w':=by
 have hg:=r.len;obtain rfl:=hg;by_cases hL:40 <l.length
 ·have F:=h_ (Kw 1 hL);have he:(40:Int) < (l.length:Int):=by omega
  go_enter Tryz.func121,Tryz.ntmps121;go_wp2;go_ret2;exact⟨em (by rw [F.o.2];rfl) F.o.1.symm,br⟩
 ·have he:(l.length:Int)≤40:=by omega
  have hh:l.length≤40:=by omega
  have HL:=h_ hL;clear hL;have u0:IntKind.u64.wrap (l.length:Int)=(l.length:Int):=by rw [IntKind.wrap_u64];omega
  have CF:Hid (∀W,Calls Tryz.prog 104 #[.int .u64 (l.length:Int),.int .i64 1] W fun e w'=>e= .returned (.string (strOfNums [(l.length:Int)]))∧Below W.heap.size W w'):=fun W=>by have:=ky (l.length:Int) 1 W (by omega) (by omega) (by omega) (by omega);rwa [tg (by omega) (by omega)]at this
  have h8:∀W:World,(Op.stringOp .add (⟨#[1]⟩:ByteArray) (strOfNums [(l.length:Int)])).run Tryz.prog W= .ok (.string (strOfNums [1,(l.length:Int)])) W:=fq (P:=Tryz.prog) [1] [(l.length:Int)] (by simp);go_enter Tryz.func121,Tryz.ntmps121;go_wp2;go_loopw [6,16] (fun v6 v16 wr=>∃(j:Nat) (T:List Int),j≤l.length∧T.length≤613*j∧Hid (T=iw (l.take j))∧Hid (fz l=fz (l.drop j))∧v16= .int .i64 j∧v6= .string (strOfNums T)∧Below w.heap.size w wr) (fun _ v16 _=>l.length- (intOf v16).toNat)
  case atStart=>exact⟨0,[],zl,by simp,rfl,rfl,rfl,rfl,br⟩
  case round=>
   obtain⟨j,T,hj,hk,hT,hC,rfl,rfl,hb⟩:=hrel;have ha:=hb.size;have hp:=strOfNums_size T;by_cases hlt:j <l.length
   ·have e1:=gE hlt;obtain⟨b,o,rfl,hr,hc⟩:=(r.below hb).at_ j _ e1;have h3:=hc 0 _ rfl;have h5:=hc 1 _ rfl;have h6:=hc 2 _ rfl;have h7:=hc 3 _ rfl;simp only [Nat.add_zero]at h3;obtain⟨pk,pi,pn,pt,h9⟩:∃pk pi pn pt,l[j]=(⟨pk,pi,pn,pt⟩:bz):=⟨_,_,_,_,rfl⟩;rw [h9]at e1 h3 h5 h6 h7;have h3:wr.cell? ⟨b,o+j*4,none⟩=some (.int .i64 pk):=h3;have h5:wr.cell? ⟨b,o+j*4+1,none⟩=some (.int .i64 pi):=h5;have h6:wr.cell? ⟨b,o+j*4+2,none⟩=some (.int .i64 pn):=h6;have h7:wr.cell? ⟨b,o+j*4+3,none⟩=some (.string pt):=h7;clear hc h9;have hm:b <wr.heap.size:=by omega
    have HK:Hid (∀W,Calls Tryz.prog 148 #[.agg #[.int .i64 pk,.int .i64 pi,.int .i64 pn,.string pt]] W fun e w'=>e= .returned (.int .i64 (ge pk pi pn pt))∧Below W.heap.size W w'):=fun W=>Yd pk pi pn pt W
    by_cases hE:ge pk pi pn pt=0
    ·obtain⟨k0,k1,i0,i1,n0,n1,hz⟩:=Ah hE;have G:Hid (fz l=fz (l.drop (j+1))):=hC.o.trans (Wz e1 hE);have GB:=h_ (Y8 e1);have hq:=Rx pk pi pn pt;have hf:Hid (∀W,Calls Tryz.prog 148 #[.agg #[.int .i64 pk,.int .i64 pi,.int .i64 pn,.string pt]] W fun e w'=>e= .returned (.int .i64 0)∧Below W.heap.size W w'):=fun W=>by have:=HK.o W;rw [hE]at this;exact this
     have HO:Hid (∀W,Calls Tryz.prog 149 #[.agg #[.int .i64 pk,.int .i64 pi,.int .i64 pn,.string pt]] W fun e w'=>e= .returned (.string (strOfNums (lk pk pi pn pt)))∧Below W.heap.size W w'):=fun W=>Rv pk pi pn pt W hE
     have c3:=fq (P:=Tryz.prog) T (lk pk pi pn pt) (by omega);generalize lk pk pi pn pt=OL at*;clear HK hE e1 h8
     go_wp2_with(first
      |(go_at_call 148;refine(hf.o _).mono ?_;rintro e w1 ⟨rfl,h0⟩;obtain⟨q0,q1,q2,q3,q4⟩:=Tp h0)
      |(go_at_call 149;refine(HO.o _).mono ?_;rintro e w2 ⟨rfl,hd⟩))
     go_roundw
     case rel=>exact⟨j+1,T++OL,by omega,by simp;omega,by simp only [Hid];rw [GB.o,hT.o],G,by go_num,rfl,((hb.alloc ha _).trans (h0.mono (by simp;omega))).trans (hd.mono (by omega))⟩
     case measure=>simp [intOf];omega
    ·have G:=h_ (Kx 1 HL.o hE (hC.o.trans (X6 e1 hE)));have hn:(ge pk pi pn pt !=0)=true:=bN hE;generalize ge pk pi pn pt=pe at*;clear hE e1 h8;go_wp2_with(go_at_call 148;refine(HK.o _).mono ?_;rintro e w1 ⟨rfl,h0⟩);go_ret2;exact⟨em (by rw [G.o.2];rfl) G.o.1.symm,(hb.alloc ha _).trans (h0.mono (by simp;omega))⟩
   ·have h2:T=iw l:=by rw [hT.o,List.take_of_length_le (by omega)]
    have h4:fz l=0:=hC.o.trans (X4 (by omega));by_cases hbig:998 < (iw l).length
    ·have G:=h_ (Ya 1 HL.o h4 hbig);have h1:(998:Int) < (T.length:Int):=by rw [h2];omega
     clear h4 hbig h2 h8;go_wp2;go_ret2;exact⟨em (by rw [G.o.2];rfl) G.o.1.symm,hb⟩
    ·have G:=h_ (Eh 1 HL.o h4 hbig);have h1:(T.length:Int)≤998:=by rw [h2];omega
     have HT:=h_ h2;have c3:=fq (P:=Tryz.prog) [1,(l.length:Int)] T (by simp;omega);clear h4 hbig h2;go_wp2_with(go_at_call 104;refine(CF.o _).mono ?_;rintro e w1 ⟨rfl,h0⟩);go_ret2;exact⟨em (by rw [G.o.2,HT.o];try rfl) G.o.1.symm,hb.trans (h0.mono hb.size)⟩
def O0:Value→Nat
 | .string t=>t.size
 |_=>0
theorem u0w(s:ByteArray)(w:World):Calls Tryz.prog 98 #[.string s] w (u9 s w):=by
 have hK:=get_bt s;by_cases h0:2≤s.size∧s.size≤1000
 ·obtain⟨lo,hi⟩:=h0;have hH:=h_ lo;have q0:0 <s.size:=by omega
  go_enter Tryz.func98,Tryz.ntmps98;go_wp2;go_loopw [5,6] (fun v5 v6 wr=>∃j p:Nat,p≤s.size∧BrJ s j p∧v6= .string (tl s p)∧af wr w.heap.size 4 v5 j ((cy s j).flatMap bz.cells)∧Below w.heap.size w wr) (fun _ v6 _=>O0 v6)
  case atStart=>exact⟨0,2,lo,BrJ.start s,rfl,af.nil _ _ _,br⟩
  case round=>
   obtain⟨j,p,hp,hI,rfl,he,hb⟩:=hrel;obtain⟨A,c,rfl⟩:=he.form;have h9:=hb.size;have hJ:=hI.lt;have hv:=lx s p;have hz:(tl s p).size≤s.size-p:=by omega
   have hG:s.size-p≤(tl s p).size:=by omega
   have ht:=h_ (ug s p 3);have hs:=h_ (fun q=>ug s p q);have HB:Hid (∀i,i <s.size-p→bt (tl s p) i=bt s (p+i)):=fun i hi=>l9 s p s.size i (by omega) ler
   have HC:Hid (∀x y,x≤y→p+y≤s.size→(tl s p).extract x y=s.extract (p+x) (p+y)):=fun x y h1 h2=>by unfold tl;rw [ByteArray.extract_extract,show min (p+y) s.size=p+y by omega]
   by_cases hlt:p <s.size
   ·have ha:=h_ (hI.not hlt);have e1:=Ds (t:=tl s p) (by omega);have e2:=ls (t:=tl s p) (by omega);have hd:=get_bt (tl s p)
    have e3:(tl s p).toList.isEmpty=false:=by
     have h:=e1;cases hl:(tl s p).toList with
     |nil=>rw [hl]at h;simp at h
     |cons a b=>rfl
    generalize hT:tl s p=T at*;have hL:=h_ hT;clear hT hv;by_cases h3:T.size <4
    ·have F:=h_ (ha.o fun k=>by have:=k.1.four;omega);go_wp2;go_ret3;exact ke F.o hb
    ·have H:Hid (∀W,Calls Tryz.prog 100 #[.string (T.extract 3 T.size)] W fun e w'=>e= .returned (.tuple #[.int .u64 (c9 (bt (tl s (p+3))) (tl s (p+3)).size),.int .i64 (ck (bt (tl s (p+3))) (tl s (p+3)).size),.int .i64 (eE s p)])∧W=w'):=fun W=>by rw [ht.o];exact ru _ W (by rw [lx];omega)
     have hy:p+4≤s.size:=by omega
     by_cases hE:eE s p=0
     ·obtain⟨a1,a2,a3,a4,a5,_⟩:=Dp hy hE;rw [a1,a2,hE]at H;have HE:=h_ hE;clear a1 a2 hE;have HX:=h_ hI.ents;have HS:=h_ (fun a=>hI.step (p:=p) a);have hg:p+3+eK s p+eN s p≤s.size→jb s p:=fun h=>⟨hy,HE.o,h⟩
      have hm:¬p+3+eK s p+eN s p≤s.size→¬jb s p:=fun h k=>h k.fits
      have hj:jb s p→600 <eN s p→¬(jb s p∧ny s p=0):=fun a b=>Vr a b
      generalize eK s p=K at*;generalize eN s p=N at*;by_cases h6:600 <N
      ·have F:=h_ (show ¬fd s from ha.o fun k=>hj k.1 h6 k);have g1:(600:Int) < (N:Int):=by omega
       clear hj hg hm HS HX;go_wp2_with(go_at_call 100;refine(H.o _).mono ?_;rintro e w' ⟨rfl,rfl⟩);go_ret3;exact ke F.o hb
      ·have g1:(N:Int)≤600:=by omega
       have g2:(K:Int)≤10:=by omega
       by_cases hf:p+3+K+N≤s.size
       ·have hD:=hg hf;have HN:=h_ (HS.o hD);have g3:(3:Int)+(K:Int)+(N:Int)≤(T.size:Int):=by omega
        have hq:=HC.o (3+K) (3+K+N) (by omega) (by omega);rw [show p+(3+K)=p+3+K by omega,show p+(3+K+N)=p+3+K+N by omega]at hq;have hn:=hs.o (3+K+N);rw [show p+(3+K+N)=p+3+K+N by omega]at hn;have HR:=h_ hn;generalize hTX:s.extract (p+3+K) (p+3+K+N)=TX at*;have y1:=bt_nonneg s p;have y2:=bt_le s p;have y3:=bt_nonneg s (p+1);have y4:=bt_le s (p+1);have y5:=bt_nonneg s (p+2);have y6:=bt_le s (p+2)
        have HF:Hid ((IntKind.i64.wrap ((3:Int)+(K:Int))=(3:Int)+(K:Int)∧IntKind.i64.wrap ((3:Int)+(K:Int)+(N:Int))=(3:Int)+(K:Int)+(N:Int))∧(IntKind.i64.wrap (bt s p)=bt s p∧IntKind.i64.wrap (bt s (p+1))=bt s (p+1)∧IntKind.i64.wrap (bt s (p+2))=bt s (p+2)∧IntKind.i64.wrap (N:Int)=(N:Int))):=by simp only [Hid,IntKind.wrap_i64];omega
        clear y1 y2 y3 y4 y5 y6
        have hcut:Hid (∀W:World,(Instr.sliceAt 9 (.string T) (some (.int .i64 ((3:Int)+(K:Int)))) (some (.int .i64 ((3:Int)+(K:Int)+(N:Int)))) none).run Tryz.prog W= .ok (.string TX) W):=by have:=yp (P:=Tryz.prog) Tryz.underlying9 T (3+K) (3+K+N) (by omega) (by omega);rw [hq]at this;simp only [Int.natCast_add,Int.cast_ofNat_Int]at this;exact this
        have hA:Hid ((∀W:World,(Instr.index 9 (.string T) (.int .i64 0)).run Tryz.prog W= .ok (.int .u8 (bt s p)) W)∧(∀W:World,(Instr.index 9 (.string T) (.int .i64 1)).run Tryz.prog W= .ok (.int .u8 (bt s (p+1))) W)∧(∀W:World,(Instr.index 9 (.string T) (.int .i64 2)).run Tryz.prog W= .ok (.int .u8 (bt s (p+2))) W)):=
         ⟨lf Tryz.underlying9 T _ 0 _ rfl (by omega) ((hd 0 (by omega)).trans (HB.o 0 (by omega))),lf Tryz.underlying9 T _ 1 _ rfl (by omega) ((hd 1 (by omega)).trans (HB.o 1 (by omega))),lf Tryz.underlying9 T _ 2 _ rfl (by omega) ((hd 2 (by omega)).trans (HB.o 2 (by omega)))⟩
        have G2:Hid (∀u∈(#[.int .i64 (bt s p),.int .i64 (bt s (p+1)),.int .i64 (bt s (p+2)),.string TX]:Array Value).toList,u.oneCell'=true):=by simp [Hid,Value.oneCell']
        have G3:Hid (j+1≤maxLen∧(j+1)*40≤140737488355328):=by unfold maxLen Hid;omega
        have G4:Hid (0 <4):=by simp [Hid]
        have GO:Hid (af (wr.alloc (.cells #[.int .i64 (bt s p),.int .i64 (bt s (p+1)),.int .i64 (bt s (p+2)),.string TX] 85)).drew w.heap.size 4 (.slice A j c) j ((cy s j).flatMap bz.cells)):=(he.alloc _).drew;have GB:Hid (w.heap.size≤(wr.alloc (.cells #[.int .i64 (bt s p),.int .i64 (bt s (p+1)),.int .i64 (bt s (p+2)),.string TX] 85)).drew.heap.size):=by simp [Hid];omega
        have GH:Hid ((wr.alloc (.cells #[.int .i64 (bt s p),.int .i64 (bt s (p+1)),.int .i64 (bt s (p+2)),.string TX] 85)).drew.heap[wr.heap.size]?=some (.cells #[.int .i64 (bt s p),.int .i64 (bt s (p+1)),.int .i64 (bt s (p+2)),.string TX] 85)):=A_ wr _;have GZ:Hid (Below w.heap.size w (wr.alloc (.cells #[.int .i64 (bt s p),.int .i64 (bt s (p+1)),.int .i64 (bt s (p+2)),.string TX] 85)).drew):=(hb.alloc h9 _).drew;generalize hU:(cy s j).flatMap bz.cells=U at*;clear hU hq hn hTX hj hg hm HS he hb hd HB HC hs ht;go_wp2_with(go_at_call 100;refine(H.o _).mono ?_;rintro e w' ⟨rfl,rfl⟩);have hcut:=hcut.o;obtain⟨⟨f1,f2⟩,⟨f3,f4,f5,f6⟩⟩:=HF.o;obtain⟨x1,x2,x3⟩:=hA.o
        go_region_law(first
         |(refine oh (P:=Tryz.prog) (e:=85) (z:=.agg #[.int .i64 0,.int .i64 0,.int .i64 0,.string ByteArray.empty]) (size:=4) (bytes:=40) (base:=w.heap.size) rfl (.tmp 50) (.tmp 70) 56 rfl Tryz.underlying56 Ja rfl G4.o A j c U rfl GO.o GB.o wr.heap.size 1 #[.int .i64 (bt s p),.int .i64 (bt s (p+1)),.int .i64 (bt s (p+2)),.string TX] 85 rfl GH.o rfl G2.o G3.o.1 G3.o.2 ?_;intro A' c' w2 hu hw hB))
        all_goals
         have hF:=h_ hu;have hC:=h_ (hw.below ler GZ.o);clear f1 f2 f3 f4 f5 f6 x1 x2 x3 hcut hu hw hB;go_wp2;go_roundw
         case rel=>exact⟨j+1,p+3+K+N,hf,HN.o,congrArg Value.string HR.o,by rw [HX.o];exact hF.o,hC.o⟩
         case measure=>(simp [O0];try omega)
       ·have F:=h_ (show ¬fd s from ha.o fun k=>hm hf k.1);have g3:(T.size:Int) < (3:Int)+(K:Int)+(N:Int):=by omega
        clear hj hg hm HS HX;go_wp2_with(go_at_call 100;refine(H.o _).mono ?_;rintro e w' ⟨rfl,rfl⟩);go_ret3;exact ke F.o hb
     ·have hh:(eE s p !=0)=true:=bN hE;have F:=h_ (ha.o fun k=>hE k.1.num);clear hE;generalize c9 (bt (tl s (p+3))) (tl s (p+3)).size=V at*;generalize ck (bt (tl s (p+3))) (tl s (p+3)).size=NN at*;generalize eE s p=E at*;go_wp2_with(go_at_call 100;refine(H.o _).mono ?_;rintro e w' ⟨rfl,rfl⟩);go_ret3;exact ke F.o hb
   ·obtain rfl:p=s.size:=by omega
    have hx:tl s s.size=⟨#[]⟩:=Dr (by omega);rw [hx];clear hx HB HC hs ht hv hz hG;have i0:(0:Int) < (s.size:Int):=by omega
    have hc:=he.rows Ky (by omega);have hk:=h_ (hI.iff hH.o hi rfl);have h8:=h_ (hI.many rfl);by_cases h1:bt s 0=1
    ·have g1:(bt s 0==1)=true:=beq_iff_eq.2 h1;have H:=h_ (Xp A j c _ wr hc);have h5:=h_ (hk.o 1 (by rw [if_pos h1]));clear hk h1;by_cases hE:gj (cy s j)=0
     ·rw [hE]at H;by_cases hS:strOfNums (i9 (cy s j) 1)=s
      ·have F:=xk (h5.o.2 ⟨hE,hS⟩);rw [h8.o (h5.o.2 ⟨hE,hS⟩),g1]at F;have FF:=h_ F;have HO:=h_ hc;rw [hS]at H;clear hE hS F h5 h8;go_wp2_with(go_at_call 121;refine H.o.mono ?_;rintro e w' ⟨rfl,h4⟩;have h7:=h_ (hb.trans (h4.mono h9));have hr:=h_ ((HO.o.below h4).more h4.size));go_quiet(fail);go_wp2;go_ret3;exact⟨A,j,c,by rw [FF.o.1,FF.o.2.2];rfl,by rw [FF.o.2.1];exact hr.o.drewN _,below_drewN h7.o _⟩
      ·have F:=h_ (show ¬fd s from fun k=>hS (h5.o.1 k).2);have hh:=me hS;generalize strOfNums (i9 (cy s j) 1)=tt at*;clear hE hS h5 h8;go_wp2_with(go_at_call 121;refine H.o.mono ?_;rintro e w' ⟨rfl,h4⟩;have h7:=h_ (hb.trans (h4.mono h9)));go_ret3;exact ke F.o h7.o
     ·have F:=h_ (show ¬fd s from fun k=>hE (h5.o.1 k).1);have hh:(gj (cy s j)!=0)=true:=bN hE;generalize strOfNums (i9 (cy s j) 1)=tt at*;generalize gj (cy s j)=ee at*;clear hE h5 h8;go_wp2_with(go_at_call 121;refine H.o.mono ?_;rintro e w' ⟨rfl,h4⟩;have h7:=h_ (hb.trans (h4.mono h9)));go_ret3;exact ke F.o h7.o
    ·have g1:(bt s 0==1)=false:=bF h1;have H:=h_ (Xq A j c _ wr hc);have h5:=h_ (hk.o 0 (by rw [if_neg h1]));clear hk h1;by_cases hE:gj (cy s j)=0
     ·rw [hE]at H;by_cases hS:strOfNums (i9 (cy s j) 0)=s
      ·have F:=xk (h5.o.2 ⟨hE,hS⟩);rw [h8.o (h5.o.2 ⟨hE,hS⟩),g1]at F;have FF:=h_ F;have HO:=h_ hc;rw [hS]at H;clear hE hS F h5 h8;go_wp2_with(go_at_call 121;refine H.o.mono ?_;rintro e w' ⟨rfl,h4⟩;have h7:=h_ (hb.trans (h4.mono h9));have hr:=h_ ((HO.o.below h4).more h4.size));go_quiet(fail);go_wp2;go_ret3;exact⟨A,j,c,by rw [FF.o.1,FF.o.2.2];rfl,by rw [FF.o.2.1];exact hr.o.drewN _,below_drewN h7.o _⟩
      ·have F:=h_ (show ¬fd s from fun k=>hS (h5.o.1 k).2);have hh:=me hS;generalize strOfNums (i9 (cy s j) 0)=tt at*;clear hE hS h5 h8;go_wp2_with(go_at_call 121;refine H.o.mono ?_;rintro e w' ⟨rfl,h4⟩;have h7:=h_ (hb.trans (h4.mono h9)));go_ret3;exact ke F.o h7.o
     ·have F:=h_ (show ¬fd s from fun k=>hE (h5.o.1 k).1);have hh:(gj (cy s j)!=0)=true:=bN hE;generalize strOfNums (i9 (cy s j) 0)=tt at*;generalize gj (cy s j)=ee at*;clear hE h5 h8;go_wp2_with(go_at_call 121;refine H.o.mono ?_;rintro e w' ⟨rfl,h4⟩;have h7:=h_ (hb.trans (h4.mono h9)));go_ret3;exact ke F.o h7.o
 ·have F:=h_ (show ¬fd s from fun k=>h0 ⟨k.lo,k.hi⟩);rcases(show s.size <2∨(2≤s.size∧1000 <s.size) by omega)with h|⟨h,h'⟩
  all_goals
   go_enter Tryz.func98,Tryz.ntmps98;go_wp2;go_ret3;exact ke F.o br
end
end Go.Proofs.YtcldpfhpkbeaiadGreat
