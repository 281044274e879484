/- A part of the proof of FsMounts. No condition of ours. -/
import Derived.Test.YtcldpfhpkbeaiadGreatFsMounts20
import Derived.WalkMore
set_option maxRecDepth 20000
set_option maxHeartbeats 2000000
namespace Go.Proofs.YtcldpfhpkbeaiadGreat
section
open Go.RowKit Go.PlainAid
theorem Pp(s:ByteArray)(B:Nat)(W:World)(row:W.heap[B]?=some (.cells #[.string s,.bool false] 151 (0,0)))(hs:s.size≤1048575)(h:gOk s):Calls Tryz.prog 76 #[.pointer (some ⟨B,0,none⟩),.int .u64 512] W fun e w'=>e= .returned (.int .i64 (gV s))∧w'.heap[B]?=some (.cells #[.string (gR s),.bool false] 151 (0,0))∧W.grownBy w' (some B):=
 (Pr s B W row hs).mono (by
   rintro e w' (⟨_,h1,h2⟩|⟨h0,_⟩)
   ·subst h2;exact⟨by rw [h1,Dg],b9 row,rt⟩
   ·exact absurd h h0)
theorem Pq(s:ByteArray)(B:Nat)(W:World)(row:W.heap[B]?=some (.cells #[.string s,.bool false] 151 (0,0)))(hs:s.size≤1048575)(h:¬gOk s):Calls Tryz.prog 76 #[.pointer (some ⟨B,0,none⟩),.int .u64 512] W fun e w'=>e= .returned (.int .i64 0)∧w'.heap[B]?=some (.cells #[.string s,.bool true] 151 (0,0))∧W.grownBy w' (some B):=
 (Pr s B W row hs).mono (by
   rintro e w' (⟨h0,_⟩|⟨_,h1,h2⟩)
   ·exact absurd h0 h
   ·subst h2;exact⟨h1,b9 row,rt⟩)
theorem Pw(s:ByteArray)(B m:Nat)(W:World)(row:W.heap[B]?=some (.cells #[.string s,.bool false] 151 (0,0)))(hs:s.size≤1048575)(hm:m≤512):Calls Tryz.prog 78 #[.pointer (some ⟨B,0,none⟩),.int .i64 m] W (qw s m B W):=by
 by_cases h:fm s 320
 ·have h2:=ry s (ct s).toNat;by_cases h9:fm (aw s (ct s).toNat) 9
  ·have h3:=ry (aw s (ct s).toNat) (ct (aw s (ct s).toNat)).toNat;exact g0b s _ _ B m W row hs h rfl (by omega) h9 rfl (by omega) hm
  ·exact f0z s _ B m W row hs h rfl (by omega) h9
 ·exact g0a s B m W row hs h
theorem jq{B:Nat}{w W w':World}(hb:Below B w W)(hB:B≤W.heap.size)(hg:W.grownBy w' (some B)):Below B w w':=hb.grown hg hB (fun k hk=>by injection hk with hk;omega)
def kf(t:ByteArray)(w:World)(e:Ending)(w':World):Prop:=e= .returned (.tuple #[.string (jd t).1,.int .i64 (jd t).2])∧Below w.heap.size w w'
theorem qd{t:ByteArray}{w w':World}(h:jd t=(ByteArray.empty,4))(hb:Below w.heap.size w w'):kf t w (.returned (.tuple #[.string ⟨#[]⟩,.int .i64 4])) w':=⟨by rw [h];rfl,hb⟩
theorem Ru{t o:ByteArray}{w w':World}(h:jd t=(o,0))(hb:Below w.heap.size w w'):kf t w (.returned (.tuple #[.string o,.int .i64 0])) w':=⟨by rw [h],hb⟩
theorem xd{t:ByteArray}(h:t.size≠0):¬t.toList=[]:=fun e=>h (by
 have:t=⟨#[]⟩:=yf (by rw [e,Go.Lib.toList_data])
 rw [this];rfl)
theorem zy{t:ByteArray}(h:t.size≠0):t.toList.isEmpty=false:=by
 have h1:=xd h;cases hl:t.toList with
 |nil=>exact absurd hl h1
 |cons a b=>rfl
theorem j0y(t:ByteArray)(w:World)(h:t.size=0):Calls Tryz.prog 45 #[.string t] w (kf t w):=by have HP:=h_ (fun w'=>qd (w:=w) (w':=w') (Rm h));have ht:t=⟨#[]⟩:=ByteArray.ext (Array.eq_empty_of_size_eq_zero h);generalize kf t w=PP at*;subst ht;clear h;go_enter Tryz.func45,Tryz.ntmps45;go_wp2;exact HP.o _ br
theorem j0x(t:ByteArray)(w:World)(hs:t.size≤1048575)(h:t.size≠0)(h1:¬gOk (aw t 1)):Calls Tryz.prog 45 #[.string t] w (kf t w):=by
 have HP:=h_ (fun w'=>qd (w:=w) (w':=w') (I9 h h1));have HN:Hid (∀V:World,V.heap[w.heap.size]?=some (.cells #[.string (aw t 1),.bool false] 151 (0,0))→Calls Tryz.prog 76 #[.pointer (some ⟨w.heap.size,0,none⟩),.int .u64 512] V fun e w'=>e= .returned (.int .i64 0)∧w'.heap[w.heap.size]?=some (.cells #[.string (aw t 1),.bool true] 151 (0,0))∧V.grownBy w' (some w.heap.size)):=fun V r=>Pq _ _ V r (by have:=ry t 1;omega) h1
 have e0:=ls h;have e1:=xd h;have e2:=zy h;have z1:1≤t.size:=by omega
 have h0:Hid (Below w.heap.size w (w.alloc (.cells #[.string (aw t 1),.bool false] 151))):=br.alloc ler _;have h2:Hid ((w.alloc (.cells #[.string (aw t 1),.bool false] 151)).heap[w.heap.size]?=some (.cells #[.string (aw t 1),.bool false] 151 (0,0))):=A_ w _;generalize kf t w=PP at*;clear h h1;go_enter Tryz.func45,Tryz.ntmps45;go_wp2_with(go_at_call 76;refine(HN.o _ h2.o).mono ?_;rintro e w2 ⟨rfl,r2,g2⟩;have k2:=rc1 r2;have h3:=h_ (jq h0.o h0.o.size g2);clear r2 g2);exact HP.o _ h3.o
theorem Z8(n:Nat):(⟨(Lib.repeatL (⟨#[0]⟩:ByteArray).data.toList n).toArray⟩:ByteArray)=zt n:=by
 have e:∀k:Nat,Lib.repeatL [(0:UInt8)] k=List.replicate k 0:=fun k=>by
  induction k with
  |zero=>rfl
  |succ k ih=>simp [Lib.repeatL,ih,List.replicate_succ]
 have e2:(⟨#[0]⟩:ByteArray).data.toList=[(0:UInt8)]:=rfl;unfold zt strOfNums;rw [e2,e];simp
theorem Bn{a b:Nat}(h:a≠b):((a:Int)!=(b:Int))=true∧(a !=b)=true:=⟨by rw [bne_iff_ne];omega,by rw [bne_iff_ne];exact h⟩
theorem yj{a b:Nat}(h:a=b):((a:Int)!=(b:Int))=false∧(a !=b)=false:=by subst h;simp
theorem h0u(t:ByteArray)(w:World)(hs:t.size≤1048575)(h:t.size≠0)(h1:gOk (aw t 1)):Calls Tryz.prog 45 #[.string t] w (kf t w):=by
 have HN:Hid (∀V:World,V.heap[w.heap.size]?=some (.cells #[.string (aw t 1),.bool false] 151 (0,0))→Calls Tryz.prog 76 #[.pointer (some ⟨w.heap.size,0,none⟩),.int .u64 512] V fun e w'=>e= .returned (.int .i64 (gV (aw t 1)))∧w'.heap[w.heap.size]?=some (.cells #[.string (gR (aw t 1)),.bool false] 151 (0,0))∧V.grownBy w' (some w.heap.size)):=fun V r=>Pp _ _ V r (by have:=ry t 1;omega) h1
 have hc:=h_ (fun(hb:gm (bt t 0) (gV (aw t 1)) (gR (aw t 1))=none) w'=>qd (w:=w) (w':=w') (Ia h h1 hb));have he:=h_ (fun o (hb:gm (bt t 0) (gV (aw t 1)) (gR (aw t 1))=some o) h3 w'=>qd (w:=w) (w':=w') (Rk h h1 hb h3));have hd:=h_ (fun o (hb:gm (bt t 0) (gV (aw t 1)) (gR (aw t 1))=some o) h3 w'=>Ru (w:=w) (w':=w') (Rj h h1 hb h3));have hw:Hid ((gR (aw t 1)).size≤1048575):=Nat.le_trans (wk _) (Nat.le_trans (ry t 1) hs);have hn512:=Df h1;have e0:=ls h;have e1:=xd h;have e2:=zy h;have z1:1≤t.size:=by omega
 have z0:0 <t.size:=by omega
 have hI:=get_bt t 0 z0;have hH:=bt_nonneg t 0;have h7:Hid (Below w.heap.size w (w.alloc (.cells #[.string (aw t 1),.bool false] 151))):=br.alloc ler _;have hh:Hid ((w.alloc (.cells #[.string (aw t 1),.bool false] 151)).heap[w.heap.size]?=some (.cells #[.string (aw t 1),.bool false] 151 (0,0))):=A_ w _
 have hB:Hid (∀V,Calls Tryz.prog 77 #[.string ⟨#[0]⟩,.int .i64 (gV (aw t 1))] V fun e w'=>e= .returned (.string (zt (gV (aw t 1))))∧Below V.heap.size V w'):=fun V=>by have:=Tryz.strings_Repeat ⟨#[0]⟩ (gV (aw t 1)) V (by omega) (by show 1*_≤_;omega);rw [Z8]at this;exact this
 generalize kf t w=PP at*;generalize gV (aw t 1)=n at*;generalize gR (aw t 1)=R at*;generalize bt t 0=K at*;clear h h1;rcases(show K=0∨K=1∨K=2∨(2 <K) by omega)with hK|hK|hK|hK
 ·subst hK;by_cases hR:R.size=0
  ·have hG:R=⟨#[]⟩:=ByteArray.ext (Array.eq_empty_of_size_eq_zero hR);have HP:=h_ (hd.o (zt n) (Y7 hR) (Fc n));obtain⟨q1,q2⟩:=yj (Fc n);generalize zt n=Z at*;subst hG;clear hR hc he hd;go_enter Tryz.func45,Tryz.ntmps45
   go_wp2_with(first
    |(go_at_call 76;refine(HN.o _ hh.o).mono ?_;rintro e w2 ⟨rfl,r2,g2⟩;have hk:=rc0 r2;have hm:=rc1 r2;have hn:=ak r2 1;have h9:=h_ r2;have h0:=h_ (jq h7.o h7.o.size g2);clear r2 g2)
    |(go_at_call 77;refine(hB.o _).mono ?_;rintro e w3 ⟨rfl,hq⟩;have r3:=ah h9.o (ag h9.o) hq;have hF:=rc0 r3;have ht:=rc1 r3;have hD:=ak r3 1;have ha:=h_ (h0.o.trans (hq.mono h0.o.size));clear r3 hq))
   exact HP.o _ ((ha.o).setCell ler _)
  ·have HP:=h_ (hc.o (Y6 hR));have y0:=ls hR;have y1:=xd hR;have y2:=zy hR;generalize zt n=Z at*;clear hR hc he hd;go_enter Tryz.func45,Tryz.ntmps45
   go_wp2_with(first
    |(go_at_call 76;refine(HN.o _ hh.o).mono ?_;rintro e w2 ⟨rfl,r2,g2⟩;have hk:=rc0 r2;have hm:=rc1 r2;have hn:=ak r2 1;have h9:=h_ r2;have h0:=h_ (jq h7.o h7.o.size g2);clear r2 g2)
    |(go_at_call 77;refine(hB.o _).mono ?_;rintro e w3 ⟨rfl,hq⟩;have r3:=ah h9.o (ag h9.o) hq;have hF:=rc0 r3;have ht:=rc1 r3;have hD:=ak r3 1;have ha:=h_ (h0.o.trans (hq.mono h0.o.size));clear r3 hq))
   exact HP.o _ ((ha.o).setCell ler _)
 ·subst hK;by_cases hR:R.size=n
  ·have HP:=h_ (hd.o R Eg hR);obtain⟨q1,q2⟩:=yj hR;clear hR hc he hd;go_enter Tryz.func45,Tryz.ntmps45;go_wp2_with(go_at_call 76;refine(HN.o _ hh.o).mono ?_;rintro e w2 ⟨rfl,r2,g2⟩;have hk:=rc0 r2;have hm:=rc1 r2;have hn:=ak r2 1;have h9:=h_ r2;have h0:=h_ (jq h7.o h7.o.size g2);clear r2 g2);exact HP.o _ h0.o
  ·have HP:=h_ (he.o R Eg hR);obtain⟨q1,q2⟩:=Bn hR;clear hR hc he hd;go_enter Tryz.func45,Tryz.ntmps45;go_wp2_with(go_at_call 76;refine(HN.o _ hh.o).mono ?_;rintro e w2 ⟨rfl,r2,g2⟩;have hk:=rc0 r2;have hm:=rc1 r2;have hn:=ak r2 1;have h9:=h_ r2;have h0:=h_ (jq h7.o h7.o.size g2);clear r2 g2);exact HP.o _ h0.o
 ·subst hK;by_cases hg:gOk R
  ·have hu:Hid (∀V:World,V.heap[w.heap.size]?=some (.cells #[.string R,.bool false] 151 (0,0))→Calls Tryz.prog 76 #[.pointer (some ⟨w.heap.size,0,none⟩),.int .u64 512] V fun e w'=>e= .returned (.int .i64 (gV R))∧w'.heap[w.heap.size]?=some (.cells #[.string (gR R),.bool false] 151 (0,0))∧V.grownBy w' (some w.heap.size)):=fun V r=>Pp _ _ V r hw.o hg
   have hm512:=Df hg;cases hmk:gy (gR R) (gV R)with
   |none=>
    have HM:Hid (∀V:World,V.heap[w.heap.size]?=some (.cells #[.string (gR R),.bool false] 151 (0,0))→Calls Tryz.prog 78 #[.pointer (some ⟨w.heap.size,0,none⟩),.int .i64 (gV R)] V fun e w'=>∃A n c s',e= .returned (.slice A n c)∧w'.heap[w.heap.size]?=some (.cells #[.string s',.bool true] 151 (0,0))∧V.grownBy w' (some w.heap.size)):=fun V r=>(Pw _ _ _ V r (Nat.le_trans (wk _) hw.o) hm512).mono (by
 rintro e w' ⟨A,n,c,s',b,L,h1,h2,_,h4,_,_,⟨rfl,_⟩|⟨_,h8⟩⟩
 ·exact⟨A,n,c,s',h1,h2,h4⟩
 ·rw [hmk]at h8;cases h8)
    have HP:=h_ (hc.o (Y3 hg hmk));generalize gV R=m at*;clear hg hmk hc he hd;go_enter Tryz.func45,Tryz.ntmps45
    go_wp2_with(first
     |(go_at_call 78;refine(HM.o _ hr.o).mono ?_;rintro e w4 ⟨A4,n4,c4,s4,rfl,r4,g4⟩;have hy:=rc1 r4;have hj:=h_ (jq ha.o ha.o.size g4);clear r4 g4)
     |(go_at_call 76;refine(hu.o _ h9.o).mono ?_;rintro e w3 ⟨rfl,r3,g3⟩;have ht:=rc1 r3;have hr:=h_ r3;have ha:=h_ (jq h0.o h0.o.size g3);clear r3 g3)
     |(go_at_call 76;refine(HN.o _ hh.o).mono ?_;rintro e w2 ⟨rfl,r2,g2⟩;have hk:=rc0 r2;have hm:=rc1 r2;have hn:=ak r2 1;have h9:=h_ r2;have h0:=h_ (jq h7.o h7.o.size g2);clear r2 g2))
    exact HP.o _ hj.o
   |some L=>
    have HM:Hid (∀V:World,V.heap[w.heap.size]?=some (.cells #[.string (gR R),.bool false] 151 (0,0))→Calls Tryz.prog 78 #[.pointer (some ⟨w.heap.size,0,none⟩),.int .i64 (gV R)] V fun e w'=>∃A n c s',e= .returned (.slice A n c)∧w'.heap[w.heap.size]?=some (.cells #[.string s',.bool false] 151 (0,0))∧V.grownBy w' (some w.heap.size)∧ab w' w'.heap.size A n c bc.cells 3 L∧(∀z∈L,bc.ok z)∧L.length≤512):=fun V r=>(Pw _ _ _ V r (Nat.le_trans (wk _) hw.o) hm512).mono (by
 rintro e w' ⟨A,n,c,s',b,L',h1,h2,h3,h4,h5,h6,⟨_,h8⟩|⟨rfl,h8⟩⟩
 ·rw [hmk]at h8;cases h8
 ·rw [hmk]at h8
  injection h8 with h8
  subst h8
  exact⟨A,n,c,s',h1,h2,h4,h3,h5,h6⟩)
    have HX:Hid (∀(A:Option Addr) (n c:Nat) (V:World),(ab V V.heap.size A n c bc.cells 3 L∧(∀z∈L,bc.ok z)∧L.length≤512)→Calls Tryz.prog 79 #[.slice A n c] V fun e w'=>e= .returned (.tuple #[.string (strOfNums (cr [] L).1),.int .i64 (cr [] L).2])∧Below V.heap.size V w'):=fun A n c V q=>r0w A n c L V q.1 q.2.1 (by have:=q.1.len;have:=q.2.2;omega)
    by_cases hE:(cr [] L).2=0
    ·have hx:=h_ (Y5 (n:=n) hg hmk hE);have d0:((cr [] L).2 !=0)=false:=by rw [hE];rfl
     generalize strOfNums (cr [] L).1=O at*;generalize(cr [] L).2=E at*;by_cases hO:O.size=n
     ·have HP:=h_ (hd.o O hx.o hO);obtain⟨q1,q2⟩:=yj hO;generalize gV R=m at*;clear hg hmk hc he hd hE hO hx;go_enter Tryz.func45,Tryz.ntmps45
      go_wp2_with(first
       |(go_at_call 79;refine(HX.o _ _ _ _ Q4.o).mono ?_;rintro e w5 ⟨rfl,hf⟩;have r5:=ah hp.o (ag hp.o) hf;have hC:=rc1 r5;have hA:=ak r5 1;have hv:=h_ (hj.o.trans (hf.mono hj.o.size));clear r5 hf)
       |(go_at_call 78;refine(HM.o _ hr.o).mono ?_;rintro e w4 ⟨A4,n4,c4,s4,rfl,r4,g4,q4⟩;have hy:=rc1 r4;have hz:=ak r4 1;have hp:=h_ r4;have Q4:=h_ q4;have hj:=h_ (jq ha.o ha.o.size g4);clear r4 g4 q4)
       |(go_at_call 76;refine(hu.o _ h9.o).mono ?_;rintro e w3 ⟨rfl,r3,g3⟩;have ht:=rc1 r3;have hr:=h_ r3;have ha:=h_ (jq h0.o h0.o.size g3);clear r3 g3)
       |(go_at_call 76;refine(HN.o _ hh.o).mono ?_;rintro e w2 ⟨rfl,r2,g2⟩;have hk:=rc0 r2;have hm:=rc1 r2;have hn:=ak r2 1;have h9:=h_ r2;have h0:=h_ (jq h7.o h7.o.size g2);clear r2 g2))
      exact HP.o _ hv.o
     ·have HP:=h_ (he.o O hx.o hO);obtain⟨q1,q2⟩:=Bn hO;generalize gV R=m at*;clear hg hmk hc he hd hE hO hx;go_enter Tryz.func45,Tryz.ntmps45
      go_wp2_with(first
       |(go_at_call 79;refine(HX.o _ _ _ _ Q4.o).mono ?_;rintro e w5 ⟨rfl,hf⟩;have r5:=ah hp.o (ag hp.o) hf;have hC:=rc1 r5;have hA:=ak r5 1;have hv:=h_ (hj.o.trans (hf.mono hj.o.size));clear r5 hf)
       |(go_at_call 78;refine(HM.o _ hr.o).mono ?_;rintro e w4 ⟨A4,n4,c4,s4,rfl,r4,g4,q4⟩;have hy:=rc1 r4;have hz:=ak r4 1;have hp:=h_ r4;have Q4:=h_ q4;have hj:=h_ (jq ha.o ha.o.size g4);clear r4 g4 q4)
       |(go_at_call 76;refine(hu.o _ h9.o).mono ?_;rintro e w3 ⟨rfl,r3,g3⟩;have ht:=rc1 r3;have hr:=h_ r3;have ha:=h_ (jq h0.o h0.o.size g3);clear r3 g3)
       |(go_at_call 76;refine(HN.o _ hh.o).mono ?_;rintro e w2 ⟨rfl,r2,g2⟩;have hk:=rc0 r2;have hm:=rc1 r2;have hn:=ak r2 1;have h9:=h_ r2;have h0:=h_ (jq h7.o h7.o.size g2);clear r2 g2))
      exact HP.o _ hv.o
    ·have HP:=h_ (hc.o (Y4 hg hmk hE));have d0:((cr [] L).2 !=0)=true:=by simpa using hE
     generalize strOfNums (cr [] L).1=O at*;generalize(cr [] L).2=E at*;generalize gV R=m at*;clear hg hmk hc he hd hE;go_enter Tryz.func45,Tryz.ntmps45
     go_wp2_with(first
      |(go_at_call 79;refine(HX.o _ _ _ _ Q4.o).mono ?_;rintro e w5 ⟨rfl,hf⟩;have r5:=ah hp.o (ag hp.o) hf;have hC:=rc1 r5;have hA:=ak r5 1;have hv:=h_ (hj.o.trans (hf.mono hj.o.size));clear r5 hf)
      |(go_at_call 78;refine(HM.o _ hr.o).mono ?_;rintro e w4 ⟨A4,n4,c4,s4,rfl,r4,g4,q4⟩;have hy:=rc1 r4;have hz:=ak r4 1;have hp:=h_ r4;have Q4:=h_ q4;have hj:=h_ (jq ha.o ha.o.size g4);clear r4 g4 q4)
      |(go_at_call 76;refine(hu.o _ h9.o).mono ?_;rintro e w3 ⟨rfl,r3,g3⟩;have ht:=rc1 r3;have hr:=h_ r3;have ha:=h_ (jq h0.o h0.o.size g3);clear r3 g3)
      |(go_at_call 76;refine(HN.o _ hh.o).mono ?_;rintro e w2 ⟨rfl,r2,g2⟩;have hk:=rc0 r2;have hm:=rc1 r2;have hn:=ak r2 1;have h9:=h_ r2;have h0:=h_ (jq h7.o h7.o.size g2);clear r2 g2))
     exact HP.o _ (hv.o.setCell ler _)
  ·have hu:Hid (∀V:World,V.heap[w.heap.size]?=some (.cells #[.string R,.bool false] 151 (0,0))→Calls Tryz.prog 76 #[.pointer (some ⟨w.heap.size,0,none⟩),.int .u64 512] V fun e w'=>e= .returned (.int .i64 0)∧w'.heap[w.heap.size]?=some (.cells #[.string R,.bool true] 151 (0,0))∧V.grownBy w' (some w.heap.size)):=fun V r=>Pq _ _ V r hw.o hg
   have HP:=h_ (hc.o (Y2 hg));clear hg hc he hd;go_enter Tryz.func45,Tryz.ntmps45
   go_wp2_with(first
    |(go_at_call 76;refine(hu.o _ h9.o).mono ?_;rintro e w3 ⟨rfl,r3,g3⟩;have ht:=rc1 r3;have ha:=h_ (jq h0.o h0.o.size g3);clear r3 g3)
    |(go_at_call 76;refine(HN.o _ hh.o).mono ?_;rintro e w2 ⟨rfl,r2,g2⟩;have hk:=rc0 r2;have hm:=rc1 r2;have hn:=ak r2 1;have h9:=h_ r2;have h0:=h_ (jq h7.o h7.o.size g2);clear r2 g2))
   exact HP.o _ ha.o
 ·have HP:=h_ (hc.o (Y1 hK));have d0:(K==0)=false:=by rw [beq_eq_false_iff_ne];omega
  have d1:(K==1)=false:=by rw [beq_eq_false_iff_ne];omega
  have d2:(K==2)=false:=by rw [beq_eq_false_iff_ne];omega
  clear hc he hd hK;go_enter Tryz.func45,Tryz.ntmps45;go_wp2_with(go_at_call 76;refine(HN.o _ hh.o).mono ?_;rintro e w2 ⟨rfl,r2,g2⟩;have hk:=rc0 r2;have hm:=rc1 r2;have hn:=ak r2 1;have h9:=h_ r2;have h0:=h_ (jq h7.o h7.o.size g2);clear r2 g2);exact HP.o _ (h0.o.setCell ler _)
end
section
open Go.RowKit
theorem qf:(Tryz.prog.info? 9).map (fun i=>(i.zero,i.size,i.bytes))=some (some (.string ⟨#[]⟩),1,16):=by kernel_rfl
theorem lq:(Tryz.prog.info? 69).map (·.size)=some 2:=by kernel_rfl
abbrev cz:Array Value:= #[.int .i64 0,.slice none 0 0]
theorem C7{w:World}{base n c:Nat}{A:Option Addr}{xs:List ByteArray}(h:af w base 1 (.slice A n c) n (xs.map Value.string)):ab w w.heap.size A n c (fun z=>[.string z]) 1 xs:=by
 have h':af w base 1 (.slice A n c) n (xs.flatMap (fun z=>[Value.string z])):=by rw [←List.map_eq_flatMap];exact h
 exact h'.rows (enc:=fun z=>[.string z]) (k:=1) (fun _=>rfl) (by decide)
def DtQ(ok:Prop)(sz:Int)(L:List ByteArray)(w w':World)(S:Int)(A:Option Addr)(m c:Nat):Prop:=
 Below w.heap.size w w'∧(∀a,A=some a→w.heap.size≤a.block)∧((ok∧S=sz∧ab w' w'.heap.size A m c (fun z=>[.string z]) 1 L)∨(¬ok∧S=0∧A=none∧m=0∧c=0))
def Lv(ok:Prop)(sz:Int)(L:List ByteArray)(w:World)(e:Ending)(w':World):Prop:=
 ∃z:Int×Option Addr×Nat×Nat×Int,e= .returned (.tuple #[.agg #[.int .i64 z.1,.slice z.2.1 z.2.2.1 z.2.2.2.1],.int .i64 z.2.2.2.2])∧(ok↔z.2.2.2.2=0)∧DtQ ok sz L w w' z.1 z.2.1 z.2.2.1 z.2.2.2.1
section
variable {ok:Prop} {sz S E:Int} {L:List ByteArray} {w w' w2:World} {A:Option Addr} {m c:Nat}
theorem DtQ.more(h:DtQ ok sz L w w' S A m c)(hb:Below w'.heap.size w' w2):DtQ ok sz L w w2 S A m c:=by
 obtain⟨h1,h2,h3⟩:=h;refine⟨h1.trans (hb.mono h1.size),h2,?_⟩;rcases h3 with⟨a,b,f⟩|h3
 ·exact .inl ⟨a,b,(f.below hb).more hb.size⟩
 ·exact .inr h3
theorem DtQ.early{w0:World}(hb:Below w0.heap.size w0 w)(h:DtQ ok sz L w w' S A m c):DtQ ok sz L w0 w' S A m c:=
 ⟨hb.trans (h.1.mono hb.size),fun a ha=>Nat.le_trans hb.size (h.2.1 a ha),h.2.2⟩
def DmI(t:TypeId)(ok:Prop)(sz:Int)(L:List ByteArray)(w:World)(s:Value)(wx:World):Prop:=
 ∃(S:Int) (A:Option Addr) (m c:Nat) (M:Nat),s= .pointer (some ⟨M,0,none⟩)∧w.heap.size≤M∧Hid (wx.heap[M]?=some (.cells #[.int .i64 S,.slice A m c] t (0,0)))∧Hid (DtQ ok sz L w wx S A m c)
theorem A9{t:TypeId}(h:DtQ ok sz L w.drew w2 S A m c):DmI t ok sz L w (.pointer (some ⟨w2.heap.size,0,none⟩)) (w2.alloc (.cells #[.int .i64 S,.slice A m c] t)):=by have h2:DtQ ok sz L w w2 S A m c:=h.early br.drew;exact⟨S,A,m,c,_,rfl,h2.1.size,A_ w2 _,h2.more (br.alloc ler _)⟩
theorem DmI.below{t:TypeId}{s:Value}{wx:World}(h:DmI t ok sz L w s wx):Below w.heap.size w wx:=by obtain⟨_,_,_,_,_,_,_,_,hq⟩:=h;exact hq.o.1
theorem A7{t:TypeId}{o:Obj}{z0 z1:Value}(hM:w2.heap[w.heap.size]?=some (.cells #[z0,z1] t (0,0)))(h:DtQ ok sz L (w.alloc o).drew w2 S A m c):DmI t ok sz L w (.pointer (some ⟨w.heap.size,0,none⟩)) ((w2.setCell ⟨w.heap.size,0,none⟩ (.int .i64 S)).setCell ⟨w.heap.size,1,none⟩ (.slice A m c)):=by
 have m1:=b9 (j:=1) (v:=.slice A m c) (b9 (j:=0) (v:=.int .i64 S) hM);have h1:Below w.heap.size w (w.alloc o).drew:=(br.alloc ler _).drew;have h2:(w.alloc o).drew.heap.size=w.heap.size+1:=by simp
 obtain⟨b1,b2,b3⟩:=h;have b4:Below w.heap.size w w2:=h1.trans (b1.mono h1.size);refine⟨S,A,m,c,_,rfl,Nat.le_refl _,m1,(b4.setCell ler _).setCell ler _,fun a ha=>by have:=b2 a ha;omega,?_⟩;rcases b3 with⟨e1,e2,e5⟩|b3
 ·have h0:∀b o,A=some ⟨b,o,none⟩→0 <m→b≠w.heap.size:=fun b o e _ e2=>by have h1:=b2 _ e;simp only at h1;omega
  exact .inl ⟨e1,e2,(dj (z:=1) (dj (z:=0) e5 h0 _) h0 _).more (by simp [World.setCell])⟩
 ·exact .inr b3
end
structure DtI(O:Nat)(sz:Int)(L:List ByteArray)(i:Nat)(A:Option Addr)(c:Nat)(wa wr:World):Prop where
 own:af wr (O+1) 1 (.slice A i c) i (L.map Value.string)
 out:wr.heap[O]?=some (.cells #[.int .i64 sz,.slice A i c] 69 (0,0))
 below:Below O wa wr
 size:O+1≤wr.heap.size
section
variable {O i c c3:Nat} {sz:Int} {L:List ByteArray} {wa wr w1 w3:World} {A A3:Option Addr}
theorem DtI.go(h:DtI O sz L i A c wa wr)(hb:Below wr.heap.size wr w1):DtI O sz L i A c wa w1:=
 {own:=h.own.fresh_below hb,out:=ah h.out (ag h.out) hb,below:=h.below.trans (hb.mono (by have:=h.size;omega)),size:=Nat.le_trans h.size hb.size}
theorem DtI.alloc(h:DtI O sz L i A c wa wr)(o:Obj):DtI O sz L i A c wa (wr.alloc o):=h.go (br.alloc ler o)
theorem DtI.drew(h:DtI O sz L i A c wa wr):DtI O sz L i A c wa wr.drew:=h.go br.drew
theorem DtI.cells(h:DtI O sz L i A c wa wr)(hl:ed wr w3 (O+1) (Value.ownBlock (.slice A i c))):w3.cell? ⟨O,1,none⟩=some (.slice A i c)∧w3.frozen? ⟨O,1,none⟩=false:=
 have e:=dw h.out hl (fun e=>by have:=(h.own.lt _ e).1;omega)
 ⟨aj e 1,ak e 1⟩
theorem DtI.add{s:ByteArray}(h:DtI O sz L i A c wa wr)(hown:af w3 (O+1) 1 (.slice A3 (i+1) c3) (i+1) (L.map Value.string++[.string s]))(hl:ed wr w3 (O+1) (Value.ownBlock (.slice A i c))):DtI O sz (L++[s]) (i+1) A3 c3 wa (w3.setCell ⟨O,1,none⟩ (.slice A3 (i+1) c3)):=by
 have ho:Value.ownBlock (.slice A3 (i+1) c3)≠some O:=fun e=>by have:=(hown.lt _ e).1;omega
 refine {own:=?_,out:=?_,below:=?_,size:=?_}
 ·rw [List.map_append];exact hown.setOther ho _
 ·exact b9 (j:=1) (v:=.slice A3 (i+1) c3) (dw h.out hl (fun e=>by have:=(h.own.lt _ e).1;omega))
 ·exact(hl.below (by omega) h.below).setCell ler _
 ·have:=hl.size;have:=h.size;simp [World.setCell];omega
end
noncomputable def dtL(cs:List ByteArray)(ws:List ae)(ps:List aa)(i:Nat):List ByteArray:=(ps.take i).map (dtT cs ws)
def A0(cs:List ByteArray)(ws:List ae)(n sz:Int)(ps:List aa)(i:Nat):Prop:=∀(k:Nat) (p:aa),k <i→ps[k]?=some p→mp cs ws n sz k p
section
variable {cs:List ByteArray} {ws:List ae} {n sz:Int} {ps:List aa} {i:Nat} {p:aa}
theorem Dw(h:ps[i]?=some p):dtL cs ws ps (i+1)=dtL cs ws ps i++[dtT cs ws p]:=by unfold dtL;rw [List.take_add_one,h];simp
theorem Du(h:A0 cs ws n sz ps i)(hp:ps[i]?=some p)(h1:mp cs ws n sz i p):A0 cs ws n sz ps (i+1):=fun k q hk hq=>by
 rcases Nat.lt_succ_iff_lt_or_eq.1 hk with hk|rfl
 ·exact h k q hk hq
 ·rw [hp]at hq;injection hq with hq;subst hq;exact h1
theorem Dv:A0 cs ws n sz ps ps.length↔i8 cs ws n sz ps:=
 ⟨fun h k p hp=>h k p (gS.1 hp).1 hp,fun h k p _ hp=>h k p hp⟩
theorem pb(hp:ps[i]?=some p)(h1:¬mp cs ws n sz i p):¬i8 cs ws n sz ps:=fun h=>h1 (h i p hp)
end
theorem h0k{cs:List ByteArray}{ws:List ae}{n k:Int}{q:aa}{w:World}{f:FuncId}{args:Array Value}(h:Calls Tryz.prog f args w (Eu cs ws n k q w)):Calls Tryz.prog f args w fun e w'=>∃z:ByteArray×Int,e= .returned (.tuple #[.string z.1,.int .i64 z.2])∧(Below w.heap.size w w'∧((km cs ws n k q∧z.1=ptX cs ws q∧z.2=0)∨(¬km cs ws n k q∧z.2=18))):=
 h.mono fun e w' h=>by
  rcases h with⟨h1,rfl,h2⟩|⟨h1,rfl,h2⟩
  ·exact⟨(_,0),rfl,h2,.inl ⟨h1,rfl,rfl⟩⟩
  ·exact⟨(_,18),rfl,h2,.inr ⟨h1,rfl⟩⟩
end
section
open Go.RowKit Go.PlainAid
theorem Xk{l:List Int}(h:dt l=0):l.length≤320:=by
 by_cases h2:320 <l.length
 ·have h3:=(Jw h2).2;have h4:=(Ae (l:=l) (by rw [h3];decide)).1;rw [h3,h]at h4;exact absurd h4 (by decide)
 ·omega
def Bgn(xs ys:List Int):Prop:=xs.take ys.length=ys∧ys.length≤xs.length
theorem v0v{xs ys:List Int}(hl:ys.length≤xs.length)(h:∀i,i <ys.length→xs[i]?=ys[i]?):Bgn xs ys:=by
 refine⟨?_,hl⟩;apply List.ext_getElem?;intro i;by_cases hi:i <ys.length
 ·rw [List.getElem?_take,if_pos hi];exact h i hi
 ·rw [List.getElem?_eq_none (by rw [List.length_take];omega),List.getElem?_eq_none (by omega)]
theorem v0s{xs ys:List Int}{i:Nat}(hi:i <ys.length)(h:xs[i]?≠ys[i]?):¬Bgn xs ys:=fun hb=>by
 apply h;have:=hb.1;conv=>rhs;rw [←this]
 rw [List.getElem?_take,if_pos hi]
theorem Yk(B B':Nat)(A:Option Addr)(n c:Nat)(xs:List Int)(A':Option Addr)(n' c':Nat)(ys:List Int)(w:World)(r:ab w B A n c (fun z=>[.int .i64 z]) 1 xs)(r':ab w B' A' n' c' (fun z=>[.int .i64 z]) 1 ys):Calls Tryz.prog 152 #[.slice A n c,.slice A' n' c'] w fun e w'=>∃(b:Bool) (q:Nat),e= .returned (.bool b)∧(b=true↔Bgn xs ys)∧w'=w.drewN q:=by
 have hn:=r.len;have h4:=r'.len;subst hn;subst h4;have h8:(xs.length:Int)≤9223372036854775807:=by have h1:=r.le;have h2:=r.top;unfold maxLen at h2;omega
 have h6:(ys.length:Int)≤9223372036854775807:=by have h1:=r'.le;have h2:=r'.top;unfold maxLen at h2;omega
 by_cases hl:ys.length≤xs.length
 ·have d1:=dF (show ¬xs.length <ys.length by omega);go_enter Tryz.func152,Tryz.ntmps152;go_wp2;go_loopw [5,13] (fun _ v13 wr=>∃i q:Nat,i≤ys.length∧v13= .int .i64 i∧Hid (wr=w.drewN q∧∀j,j <i→xs[j]?=ys[j]?)) (fun _ v13 _=>ys.length- (intOf v13).toNat)
  case atStart=>exact⟨0,0,zl,rfl,rfl,fun j h=>by omega⟩
  case round=>
   obtain⟨i,q,hi,rfl,HI⟩:=hrel;by_cases hlt:i <ys.length
   ·have h3:=dT (show(i:Int) < (ys.length:Int) by omega);have e1:=gE (l:=xs) (i:=i) (by omega);have e2:=gE hlt;have i1:(i:Int) < (ys.length:Int):=by omega
    have i2:(i:Int) < (xs.length:Int):=by omega
    obtain⟨b,o,rfl,h9,hc⟩:=(r.keep (w':=wr) (fun p _=>by rw [HI.o.1];rfl)).one e1;obtain⟨b',o',rfl,h7,h5⟩:=(r'.keep (w':=wr) (fun p _=>by rw [HI.o.1];rfl)).one e2;by_cases hne:xs[i]=ys[i]
    ·have HE:Hid (∀j,j <i+1→xs[j]?=ys[j]?):=fun j hj=>by
      by_cases e:j=i
      ·subst e;rw [e1,e2,hne]
      ·exact HI.o.2 j (by omega)
     have h0:(xs[i]!=ys[i])=false:=bne_eq_false_iff_eq.2 hne;generalize xs[i]=x at*;generalize ys[i]=y at*;clear e1 e2 hne;go_wp2;go_quiet(fail);go_wp2;go_roundw
     case rel=>exact⟨i+1,q+nq,by omega,by go_num,by rw [HI.o.1,World.drewN_drewN],HE.o⟩
     case measure=>simp [intOf];omega
    ·have F:¬Bgn xs ys:=v0s hlt (by rw [e1,e2];exact fun k=>hne (by injection k));have h0:(xs[i]!=ys[i])=true:=bN hne;generalize xs[i]=x at*;generalize ys[i]=y at*;clear e1 e2 hne;go_wp2;go_quiet(fail);go_wp2;go_ret;exact⟨false,q+nq,rfl,by simp [F],by rw [HI.o.1,World.drewN_drewN]⟩
   ·have F:Bgn xs ys:=v0v hl fun j hj=>HI.o.2 j (by omega)
    have h3:=dF (show ¬(i:Int) < (ys.length:Int) by omega);go_wp2;go_ret;exact⟨true,q,rfl,by simp [F],HI.o.1⟩
 ·have d1:=dT (show xs.length <ys.length by omega);have F:¬Bgn xs ys:=fun h=>hl h.2
  clear hl;go_enter Tryz.func152,Tryz.ntmps152;go_wp2;go_ret;exact⟨false,0,rfl,by simp [F],rfl⟩
end
section
open Go.RowKit
theorem t0g(c:Int)(k:Nat):fk c (k+1)=(c/2^k%2)::fk c k:=rfl
theorem t0h(c x:Int)(w:World)(hc0:0≤c)(hc1:c≤32768*320)(hx0:0≤x)(hx1:x≤15):Calls Tryz.prog 151 #[.int .i64 c,.int .i64 x] w fun e w'=>∃A q d,e= .returned (.slice A q d)∧af w' w.heap.size 1 (.slice A q d) q ((fk c x.toNat).map (Value.int .i64))∧Below w.heap.size w w':=by
 obtain⟨n,rfl⟩:=Int.eq_ofNat_of_zero_le hx0;rw [Int.toNat_natCast];go_enter Tryz.func151,Tryz.ntmps151;go_wp2;go_loopw [5,6] (fun v5 v6 wr=>∃(i:Int) (O:List Int),-1≤i∧i <n∧Hid (O++fk c (i+1).toNat=fk c n)∧(O.length:Int)≤n- (i+1)∧v6= .int .i64 i∧af wr w.heap.size 1 v5 O.length (O.map (Value.int .i64))∧Below w.heap.size w wr) (fun _ v6 _=>(intOf v6+1).toNat)
 case atStart=>exact⟨(n:Int)-1,[],by omega,by omega,by simp only [Hid];rw [show((n:Int)-1+1).toNat=n by omega];rfl,by simp,by go_num,af.nil _ _ _,br⟩
 case round=>
  obtain⟨i,O,h8,hd,hO,hf,rfl,h0,hb⟩:=hrel;obtain⟨A,d,rfl⟩:=h0.form;have h5:=hb.size;by_cases hi:0≤i
  ·obtain⟨k,rfl⟩:∃k:Nat,i=k:=⟨i.toNat,by omega⟩;have hk:k≤14:=by omega
   have h6:(0:Int) <2^k:=Int.pow_pos (by decide)
   have h9:(2:Int)^k≤16384:=by
    have:(2:Nat)^k≤2^14:=Nat.pow_le_pow_right (by omega) hk;have h2:((2^k:Nat):Int)≤((2^14:Nat):Int):=by exact_mod_cast this
    simpa using h2
   have HX:Hid ((O++[c/2^k%2])++fk c k=fk c n):=by have:=hO.o;rw [show((k:Int)+1).toNat=k+1 by omega,t0g]at this;simpa [Hid]using this
   have hP:=h_ (rf k wr (by omega) (by omega));rw [Int.toNat_natCast]at hP;have ha:0≤c/2^k:=Int.ediv_nonneg hc0 (by omega);have he:c/2^k≤c:=Int.ediv_le_self _ hc0;have ht:c.tdiv (2^k)=c/2^k:=Int.tdiv_eq_ediv_of_nonneg hc0;generalize hpe:(2:Int)^k=p at*;have hn:(p==0)=false:=by rw [beq_eq_false_iff_ne];omega
   have hg:p≠0:=by omega
   generalize hqe:c/p=q at*;have h7:wrap64 q=q:=by unfold wrap64;omega
   clear hqe hpe;go_wp2_with(first|(go_at_call 128;refine hP.o.mono ?_;rintro e w' ⟨rfl,rfl⟩)|(at_builtin;refine dx rfl rfl Tryz.underlying41 vx rfl (Nat.le_refl 1) h0 rfl h5 rfl rfl rfl ?_ ?_ ?_ ?_;simp [Value.oneCell'];(unfold maxLen;omega);omega;intro A3 c3 w3 h3 h4 hc));go_roundw
   case rel=>exact⟨(k:Int)-1,O++[q%2],by omega,by omega,by simp only [Hid];rw [show((k:Int)-1+1).toNat=k by omega];exact HX.o,by simp;omega,by go_num,by simpa using h3,h4.below ler hb⟩
   case measure=>(simp [intOf];try omega)
  ·have h1:O=fk c n:=by have:=hO.o;rw [show(i+1).toNat=0 by omega]at this;simpa [fk]using this
   have F:=h_ h1;clear h1;go_wp2;go_ret;exact⟨A,O.length,d,rfl,by rw [←F.o];exact h0,hb⟩
end
end Go.Proofs.YtcldpfhpkbeaiadGreat
