/- A part of the proof of FsMounts. No condition of ours. -/
import Derived.Test.YtcldpfhpkbeaiadGreatFsMounts23
import Derived.Deep.CutBlock
set_option maxRecDepth 100000
set_option maxHeartbeats 4000000
namespace Go.Proofs.YtcldpfhpkbeaiadGreat
section
open Go.RowKit Go.PlainAid
theorem r0v(A:Option Addr)(n c:Nat)(xs:List bc)(w:World)(r:ab w w.heap.size A n c bc.cells 3 xs)(ok:∀z∈xs,bc.ok z)(hn:n≤140737488355328):Calls Tryz.prog 102 #[.slice A n c] w fun e w'=>e= .returned (.tuple #[.string (strOfNums (cr [] xs).1),.int .i64 (cr [] xs).2])∧Below w.heap.size w w':=by
 have ht:=r.len;obtain rfl:=ht;go_enter Tryz.func102,Tryz.ntmps102;go_wp2;go_loopw [4,13] (fun v4 v13 wr=>∃(k:Nat) (O:List Int),k≤xs.length∧O.length≤512∧Hid (cr [] xs=cr O (xs.drop k))∧v13= .int .i64 k∧v4= .string (strOfNums O)∧Below w.heap.size w wr) (fun _ v13 _=>xs.length- (intOf v13).toNat)
 case atStart=>exact⟨0,[],zl,by simp,by simp [Hid],rfl,rfl,br⟩
 case round=>
  obtain⟨k,O,hk,hO,hE,rfl,rfl,hb⟩:=hrel;have h0:=hb.size;have hC:=strOfNums_size O;by_cases hlt:k <xs.length
  ·obtain⟨b,o,rfl,hN,hc⟩:=(r.below hb).at_ k _ (gE hlt);have hx:xs.drop k=xs[k]::xs.drop (k+1):=List.drop_eq_getElem_cons hlt;have HD:=h_ hx;have hm:=ok xs[k] (List.getElem_mem hlt);clear hx;generalize xs[k]=m at*;obtain⟨a,d,by_⟩:=m;have hg:=hc 0 _ rfl;have hz:=hc 1 _ rfl;have hL:=hc 2 _ rfl;simp only [Nat.add_zero]at hg;obtain⟨wa,wd,wb⟩:=hm;have ha:=Bc wa;have hd:=Bc wd;have hP:=Mq wb;clear hc wa wd wb;by_cases he:iq ⟨a,d,by_⟩=0
   ·rcases T7 he with⟨rfl,rfl⟩|⟨h1,h2,h3,rfl⟩
    ·have hh:(iq ⟨0,0,by_⟩!=0)=false:=by rw [he];rfl
     have hr:=uq (P:=Tryz.prog) Tryz.underlying159 Tryz.underlying5 Tryz.underlying9 by_;have h9:=fq (P:=Tryz.prog) O [by_] (by simp;omega);have h6:=strOfNums_size (O++[by_]);rw [List.length_append]at h6;by_cases hfull:(O.length:Int)+1≤512
     ·have F:Hid (cr [] xs=cr (O++[by_]) (xs.drop (k+1))):=by simp only [Hid];rw [hE.o,HD.o,Dn he (by simp only;omega) (by rw [vm];simp;omega),vm]
      clear he hO;go_wp2_with(go_at_call 130;refine(zj _ _ _ _).mono ?_;rintro e w' ⟨rfl,rfl⟩);go_roundw
      case rel=>exact⟨k+1,O++[by_],by omega,by simp;omega,F,by go_num,rfl,(((hb.alloc h0 _).alloc (by simp;omega) _).alloc (by simp;omega) _)⟩
      case measure=>simp [intOf];omega
     ·have F:Hid (cr [] xs=([],2)):=by simp only [Hid];rw [hE.o,HD.o,Dm he (by simp only;omega) (by rw [vm];simp;omega)]
      clear he;go_wp2_with(go_at_call 130;refine(zj _ _ _ _).mono ?_;rintro e w' ⟨rfl,rfl⟩);go_ret2;exact⟨em (by rw [F.o];rfl) (by rw [F.o]),(((hb.alloc h0 _).alloc (by simp;omega) _).alloc (by simp;omega) _)⟩
    ·have hh:(iq ⟨a,d,0⟩!=0)=false:=by rw [he];rfl
     have hr:=uq (P:=Tryz.prog) Tryz.underlying159 Tryz.underlying5 Tryz.underlying9 0;by_cases hdist:(O.length:Int) <d
     ·have F:Hid (cr [] xs=([],8)):=by simp only [Hid];rw [hE.o,HD.o,Vk he (by simp only;omega)]
      clear he;go_wp2_with(go_at_call 130;refine(zj _ _ _ _).mono ?_;rintro e w' ⟨rfl,rfl⟩);go_ret2;exact⟨em (by rw [F.o];rfl) (by rw [F.o]),((hb.alloc h0 _).alloc (by simp;omega) _)⟩
     ·have h7:=o7 O d.toNat a.toNat;obtain⟨D,rfl⟩:=Int.eq_ofNat_of_zero_le (show 0≤d by omega);rw [Int.toNat_natCast]at h7;have hF:(strOfNums O).extract (O.length-D) O.length=strOfNums (O.drop (O.length-D)):=b0x _ _;have h4:(O.drop (O.length-D)).length=D:=by simp;omega
      have hy:(strOfNums (O.drop (O.length-D))).size=D:=by rw [strOfNums_size,h4]
      have h8:∀q,q <D→(O.drop (O.length-D)).getD q 0=O.getD (O.length-D+q) 0:=by intro q hq;simp [List.getElem?_drop]
      generalize O.drop (O.length-D)=FR at*;have HG:=h_ h8;have HC:=h_ h7;have HL:=h_ h4;clear h8 h7 h4;go_wp2_with(go_at_call 130;refine(zj _ _ _ _).mono ?_;rintro e w' ⟨rfl,rfl⟩);have hD:=HL.o;obtain⟨wo,rfl⟩:∃wo:World,wo=wr:=⟨_,rfl⟩;go_loopw [8,43] (fun v8 v43 wi=>∃j:Nat,(j:Int)≤a∧v43= .int .i64 j∧v8= .string (strOfNums (j9 O D j))∧Below w.heap.size w wi) (fun _ v43 _=>(a-intOf v43).toNat)
      case atStart=>exact⟨0,by omega,rfl,rfl,(((hb.alloc h0 _).alloc (by simp;omega) _).alloc (by simp;omega) _)⟩
      case round=>
       obtain⟨j,hj,rfl,rfl,h5⟩:=hrel;by_cases hja:(j:Int) <a
       ·obtain⟨q,hq⟩:∃q,q=j%D:=⟨_,rfl⟩;have hv:q <D:=by rw [hq];exact Nat.mod_lt _ (by omega)
        have HQ:=h_ hq;have h9:=fq (P:=Tryz.prog) (j9 O D j) [FR.getD q 0] (by rw [o7];simp;omega)
        have hp:(strOfNums FR).extract q (q+1)=strOfNums [FR.getD q 0]:=by rw [Bk,show q+1-q=1 by omega];congr 1;rw [List.take_one,List.head?_drop];simp [gE (show q <FR.length by omega)]
        have e1:(j:Int).tmod (D:Int)=(q:Int):=by rw [Int.tmod_eq_emod_of_nonneg (by omega),hq];simp
        have e2:IntKind.i64.wrap ((q:Int)+1)=(q:Int)+1:=by rw [IntKind.wrap_i64];omega
        have hK:((D:Int)==0)=false:=by rw [beq_eq_false_iff_ne];omega
        have hA:(D:Int)≠0:=by omega
        have hH:¬D=0:=by omega
        have hI:¬(strOfNums FR).size=0:=by omega
        have hw:j%D=q:=hq.symm;have e3:(0:Int)≤(q:Int)+1:=by omega
        have e4:((q:Int)+1).toNat=q+1:=by omega
        have e5:(q:Int)+1≤(D:Int):=by omega
        have hcut:=yp (P:=Tryz.prog) (t:=9) (by kernel_rfl) (strOfNums FR) q (q+1) (by omega) (by omega);rw [hp]at hcut;have e6:(q:Int)≤(q:Int)+1:=by omega
        have hB:=HG.o q hv;generalize FR.getD q 0=bq at*;have HB:=h_ hB;clear hq hB;go_wp2;go_quiet(fail);go_wp2;go_roundw
        case rel=>exact⟨j+1,by omega,by go_num,by rw [Wp,←HQ.o,←HB.o],below_drewN h5 _⟩
        case measure=>simp [intOf];omega
       ·have hs:a.toNat=j:=by omega
        have hJ:(strOfNums (j9 O D j)).size=j:=by rw [strOfNums_size,o7]
        have h9:=fq (P:=Tryz.prog) O (j9 O D j) (by rw [o7];omega);have h6:=strOfNums_size (O++j9 O D j);rw [List.length_append,o7]at h6;have hM:more O ⟨a,D,0⟩=j9 O D j:=by rw [Cj _ _ _ _ (by omega),hs,Int.toNat_natCast]
        by_cases hfull:(O.length:Int)+(j:Int)≤512
        ·have F:Hid (cr [] xs=cr (O++j9 O D j) (xs.drop (k+1))):=by simp only [Hid];rw [hE.o,HD.o,Dn he (by simp only;omega) (by rw [hM,o7];omega),hM]
         have hf:(O++j9 O D j).length≤512:=by rw [List.length_append,o7];omega
         have hu:=h_ hf;clear he hM hf;go_wp2;go_roundw
         case rel=>exact⟨k+1,O++j9 O D j,by omega,hu.o,F,by go_num,rfl,h5⟩
         case measure=>simp [intOf];omega
        ·have F:Hid (cr [] xs=([],2)):=by simp only [Hid];rw [hE.o,HD.o,Dm he (by simp only;omega) (by rw [hM,o7];omega)]
         clear he hM;go_wp2;go_ret2;exact⟨em (by rw [F.o];rfl) (by rw [F.o]),h5⟩
   ·have hG:(iq ⟨a,d,by_⟩!=0)=true:=by rw [bne_iff_ne];exact he
    have F:Hid (cr [] xs=([],iq ⟨a,d,by_⟩)):=by simp only [Hid];rw [hE.o,HD.o,cr,if_pos he]
    clear he;go_wp2_with(go_at_call 130;refine(zj _ _ _ _).mono ?_;rintro e w' ⟨rfl,rfl⟩);go_ret2;exact⟨em (by rw [F.o];rfl) (by rw [F.o]),((hb.alloc h0 _).alloc (by simp;omega) _)⟩
  ·have F:Hid (cr [] xs=(O,0)):=by simp only [Hid];rw [hE.o,List.drop_of_length_le (by omega),cr]
   go_wp2;go_ret2;exact⟨em (by rw [F.o]) (by rw [F.o]),hb⟩
theorem j0j{w:World}{b N:Nat}{cs:Array Value}{t:TypeId}{xs:List Value}(h:w.heap[b]?=some (.cells cs t (0,0)))(hl:cs.size=N)(hx:cs.toList=xs)(hN:N≤maxLen):af w b 1 (.slice (some ⟨b,0,none⟩) N N) N xs:=by
 subst hx;refine⟨by simp [hl],.inr ⟨b,0,N,rfl,Nat.le_refl _,ag h,Nat.le_refl _,hN,fun j u hu=>?_,fun j hj=>⟨?_,?_⟩⟩⟩
 ·rw [Nat.zero_add,aj h];simpa using hu
 ·rw [Nat.zero_add,aj h];have:j <cs.size:=by omega
  simp [this]
 ·rw [Nat.zero_add];exact ak h j
theorem m0f(N:Nat)(hN:N≤512):∀W:World,(Instr.makeSlice 159 (.int .u64 (N:Int)) (.int .u64 (N:Int))).run Tryz.prog W= .ok (.slice (some ⟨W.heap.size,0,none⟩) N N) (W.alloc (.cells (Array.replicate N (.int .u8 0)) 5)):=fun W=>by
 obtain⟨i,hi,h0⟩:=Option.map_eq_some_iff.1 tc;simp only [Prod.mk.injEq]at h0;obtain⟨hz,hs,h1⟩:=h0;have:=run_make (P:=Tryz.prog) W 159 5 i (.int .u8 0) Tryz.underlying159 hi hz .u64 .u64 N N (by omega) (by omega) (by rw [h1];omega) (by omega);rw [hs]at this;rw [this,Int.toNat_natCast]
 have e:madeCells (Value.int .u8 0).cells (N*1)=Array.replicate N (.int .u8 0):=by apply Array.ext';rw [Nat.mul_one,Array.toList_replicate];exact toList_madeCells_one _ _
 rw [e]
theorem h0p(V:World)(n:Nat)(hn:n≤512):af (V.alloc (.cells (Array.replicate n (.int .u8 0)) 5)) V.heap.size 1 (.slice (some ⟨V.heap.size,0,none⟩) n n) n ((List.replicate n (0:Int)).map (Value.int .u8)):=
 j0j (A_ V _) (by simp) (by simp) (by unfold maxLen;omega)
theorem Pv(s:ByteArray)(m:Nat)(W:World)(hs:s.size≤1048575)(hm:m≤512):Calls Tryz.prog 101 #[.string s,.int .i64 m] W (xu s m W):=f0x s _ _ m W hs rfl rfl hm
theorem q0f{t:ByteArray}{k:Nat}(h:ck (bt (aw t 1)) (aw t 1).size=(k:Int)):t.extract (1+k) t.size=gR (aw t 1):=by unfold gR;rw [h,Int.toNat_natCast,t0m]
theorem Uz{s:ByteArray}(h:gOk s):∃k:Nat,ck (bt s) s.size=(k:Int)∧k≤s.size:=by have h1:=zv h.1;exact⟨(ck (bt s) s.size).toNat,by omega,by omega⟩
theorem j0s(t:ByteArray)(w:World)(h:t.size=0):Calls Tryz.prog 71 #[.string t] w (kf t w):=by have HP:=h_ (fun w'=>qd (w:=w) (w':=w') (Rm h));have ht:t=⟨#[]⟩:=ByteArray.ext (Array.eq_empty_of_size_eq_zero h);generalize kf t w=PP at*;subst ht;clear h;go_enter Tryz.func71,Tryz.ntmps71;go_wp2;exact HP.o _ br
theorem j0t(t:ByteArray)(w:World)(hs:t.size≤1048575)(h:t.size≠0):Calls Tryz.prog 71 #[.string t] w (kf t w):=by
 have e0:=ls h;have e1:=xd h;have e2:=zy h;have z1:1≤t.size:=by omega
 have z0:0 <t.size:=by omega
 have hB:=get_bt t 0 z0;have hz:=bt_nonneg t 0;have hn:(aw t 1).size≤1048575:=Nat.le_trans (ry t 1) hs;have h0:=h_ (ru (aw t 1) w (by omega));by_cases hK3:2 <bt t 0
 ·have HP:Hid (∀w',Below w.heap.size w w'→kf t w (.returned (.tuple #[.string ⟨#[]⟩,.int .i64 4])) w'):=fun w' hb=>qd (by
 by_cases hg:gOk (aw t 1)
 ·exact Ia h hg (Y1 hK3)
 ·exact I9 h hg) hb
  have d0:=dT hK3;generalize kf t w=PP at*;generalize bt t 0=K at*;clear h hK3 h0;go_enter Tryz.func71,Tryz.ntmps71;go_wp2;exact HP.o _ br
 ·have d0:=dF hK3;by_cases h1:gOk (aw t 1)
  ·have h6:=h_ (fun(hb:gm (bt t 0) (gV (aw t 1)) (gR (aw t 1))=none) w'=>qd (w:=w) (w':=w') (Ia h h1 hb));have ha:=h_ (fun o (hb:gm (bt t 0) (gV (aw t 1)) (gR (aw t 1))=some o) h3 w'=>qd (w:=w) (w':=w') (Rk h h1 hb h3));have h7:=h_ (fun o (hb:gm (bt t 0) (gV (aw t 1)) (gR (aw t 1))=some o) h3 w'=>Ru (w:=w) (w':=w') (Rj h h1 hb h3));have hr:(gR (aw t 1)).size≤1048575:=Nat.le_trans (wk _) hn;have hn512:=Df h1;obtain⟨k,hk,hh⟩:=Uz h1;have hcut:=q0f hk;have hC:(ce (bt (aw t 1)) (aw t 1).size !=0)=false:=by rw [h1.1];rfl
   rw [hk,Dg]at h0;generalize ce (bt (aw t 1)) (aw t 1).size=E at*;have ht:(aw t 1).size=t.size-1:=by simp [aw,ByteArray.size_extract]
   have hy:1+k≤t.size:=by omega
   have v0:=dF (show ¬512 < (gV (aw t 1):Int) by omega);have hq:=h_ hr;have he:Hid (∀V,Calls Tryz.prog 100 #[.string (gR (aw t 1))] V fun e w'=>e= .returned (.tuple #[.int .u64 (c9 (bt (gR (aw t 1))) (gR (aw t 1)).size),.int .i64 (ck (bt (gR (aw t 1))) (gR (aw t 1)).size),.int .i64 (ce (bt (gR (aw t 1))) (gR (aw t 1)).size)])∧V=w'):=fun V=>ru _ V (by omega)
   generalize kf t w=PP at*;generalize gV (aw t 1)=n at*;generalize gR (aw t 1)=R at*;generalize bt t 0=K at*;clear h h1 hn ht hk hh hr;rcases(show K=0∨K=1∨K=2 by omega)with hK|hK|hK
   ·subst hK;clear hK3 he;by_cases hR:R.size=0
    ·have hx:R=⟨#[]⟩:=ByteArray.ext (Array.eq_empty_of_size_eq_zero hR);have HP:=h_ (h7.o (zt n) (Y7 hR) (Fc n));have hd:=m0f n hn512;have hw:=h_ (h0p w n hn512);have hu:Hid (Below w.heap.size w (w.alloc (.cells (Array.replicate n (.int .u8 0)) 5))):=br.alloc ler _;subst hx;clear hR h6 ha h7;go_enter Tryz.func71,Tryz.ntmps71
     go_wp2_with(first
      |(go_at_call 100;refine h0.o.mono ?_;rintro e w2 ⟨rfl,rfl⟩)
      |(refine M9 rfl rfl Tryz.underlying159 Tryz.underlying5 Tryz.underlying9 hw.o rfl ?_))
     exact HP.o _ hu.o
    ·have HP:=h_ (h6.o (Y6 hR));have y0:=ls hR;have y1:=xd hR;have y2:=zy hR;clear hR h6 ha h7;go_enter Tryz.func71,Tryz.ntmps71;go_wp2_with(go_at_call 100;refine h0.o.mono ?_;rintro e w2 ⟨rfl,rfl⟩);exact HP.o _ br
   ·subst hK;clear hK3 he;by_cases hR:R.size=n
    ·have HP:=h_ (h7.o R Eg hR);obtain⟨q1,q2⟩:=yj hR;clear hR h6 ha h7;go_enter Tryz.func71,Tryz.ntmps71;go_wp2_with(go_at_call 100;refine h0.o.mono ?_;rintro e w2 ⟨rfl,rfl⟩);have h9:=HP.o _ br;rw [←hcut]at h9;exact h9
    ·have HP:=h_ (ha.o R Eg hR);obtain⟨q1,q2⟩:=Bn hR;clear hR h6 ha h7;go_enter Tryz.func71,Tryz.ntmps71;go_wp2_with(go_at_call 100;refine h0.o.mono ?_;rintro e w2 ⟨rfl,rfl⟩);exact HP.o _ br
   ·subst hK;clear hK3;by_cases hg:gOk R
    ·obtain⟨k2,hh,hD⟩:=Uz hg;have hm512:=Df hg;have hA:R.extract k2 R.size=gR R:=by unfold gR;rw [hh,Int.toNat_natCast]
     have hG:(ce (bt R) R.size !=0)=false:=by rw [hg.1];rfl
     have v2:=dF (show ¬512 < (gV R:Int) by omega);rw [hh,Dg]at he;have hF:=he;cases hd:gy (gR R) (gV R)with
     |none=>
      have HM:Hid (∀V:World,Calls Tryz.prog 101 #[.string (gR R),.int .i64 (gV R)] V fun e w'=>∃A n c,e= .returned (.tuple #[.slice A n c,.bool false])∧Below V.heap.size V w'∧True):=fun V=>(Pv _ _ V (Nat.le_trans (wk _) hq.o) hm512).mono (by
 rintro e w' ⟨A,n,c,ok,L,h1,_,_,_,h5,⟨rfl,_⟩|⟨_,h8⟩⟩
 ·exact⟨A,n,c,h1,h5,trivial⟩
 ·rw [hd]at h8;cases h8)
      have HP:=h_ (h6.o (Y3 hg hd));generalize gV R=m at*;generalize gR R=R2 at*;generalize ce (bt R) R.size=E2 at*;clear hg hd h6 ha h7 hh;go_enter Tryz.func71,Tryz.ntmps71
      go_wp2_with(first
       |(go_at_call 101;refine(HM.o _).mono ?_;rintro e w4 ⟨A4,n4,c4,rfl,hc,q4⟩;have Q4:=h_ q4;have hf:=h_ hc;clear q4 hc)
       |(go_at_call 100;refine(H1D.o _).mono ?_;rintro e w3 ⟨rfl,rfl⟩)
       |(go_at_call 100;refine h0.o.mono ?_;rintro e w2 ⟨rfl,rfl⟩;have H1D:=he))
      exact HP.o _ hf.o
     |some L=>
      have HM:Hid (∀V:World,Calls Tryz.prog 101 #[.string (gR R),.int .i64 (gV R)] V fun e w'=>∃A n c,e= .returned (.tuple #[.slice A n c,.bool true])∧Below V.heap.size V w'∧ab w' w'.heap.size A n c bc.cells 3 L∧(∀z∈L,bc.ok z)∧L.length≤512):=fun V=>(Pv _ _ V (Nat.le_trans (wk _) hq.o) hm512).mono (by
 rintro e w' ⟨A,n,c,ok,L',h1,h2,h3,h4,h5,⟨_,h8⟩|⟨rfl,h8⟩⟩
 ·rw [hd]at h8;cases h8
 ·rw [hd]at h8
  injection h8 with h8
  subst h8
  exact⟨A,n,c,h1,h5,h2,h3,h4⟩)
      have HX:Hid (∀(A:Option Addr) (n c:Nat) (V:World),(ab V V.heap.size A n c bc.cells 3 L∧(∀z∈L,bc.ok z)∧L.length≤512)→Calls Tryz.prog 102 #[.slice A n c] V fun e w'=>e= .returned (.tuple #[.string (strOfNums (cr [] L).1),.int .i64 (cr [] L).2])∧Below V.heap.size V w'):=fun A n c V q=>r0v A n c L V q.1 q.2.1 (by have:=q.1.len;have:=q.2.2;omega)
      by_cases hEx:(cr [] L).2=0
      ·have hp:=h_ (Y5 (n:=n) hg hd hEx);have d1:((cr [] L).2 !=0)=false:=by rw [hEx];rfl
       generalize strOfNums (cr [] L).1=O at*;generalize(cr [] L).2=EE at*;by_cases hO:O.size=n
       ·have HP:=h_ (h7.o O hp.o hO);obtain⟨q1,q2⟩:=yj hO;generalize gV R=m at*;generalize gR R=R2 at*;generalize ce (bt R) R.size=E2 at*;clear hg hd h6 ha h7 hEx hO hp hh;go_enter Tryz.func71,Tryz.ntmps71
        go_wp2_with(first
         |(go_at_call 102;refine(HX.o _ _ _ _ Q4.o).mono ?_;rintro e w5 ⟨rfl,hj⟩;have hm:=h_ (hf.o.trans (hj.mono hf.o.size));clear hj)
         |(go_at_call 101;refine(HM.o _).mono ?_;rintro e w4 ⟨A4,n4,c4,rfl,hc,q4⟩;have Q4:=h_ q4;have hf:=h_ hc;clear q4 hc)
         |(go_at_call 100;refine(H1D.o _).mono ?_;rintro e w3 ⟨rfl,rfl⟩)
         |(go_at_call 100;refine h0.o.mono ?_;rintro e w2 ⟨rfl,rfl⟩;have H1D:=he))
        exact HP.o _ hm.o
       ·have HP:=h_ (ha.o O hp.o hO);obtain⟨q1,q2⟩:=Bn hO;generalize gV R=m at*;generalize gR R=R2 at*;generalize ce (bt R) R.size=E2 at*;clear hg hd h6 ha h7 hEx hO hp hh;go_enter Tryz.func71,Tryz.ntmps71
        go_wp2_with(first
         |(go_at_call 102;refine(HX.o _ _ _ _ Q4.o).mono ?_;rintro e w5 ⟨rfl,hj⟩;have hm:=h_ (hf.o.trans (hj.mono hf.o.size));clear hj)
         |(go_at_call 101;refine(HM.o _).mono ?_;rintro e w4 ⟨A4,n4,c4,rfl,hc,q4⟩;have Q4:=h_ q4;have hf:=h_ hc;clear q4 hc)
         |(go_at_call 100;refine(H1D.o _).mono ?_;rintro e w3 ⟨rfl,rfl⟩)
         |(go_at_call 100;refine h0.o.mono ?_;rintro e w2 ⟨rfl,rfl⟩;have H1D:=he))
        exact HP.o _ hm.o
      ·have HP:=h_ (h6.o (Y4 hg hd hEx));have d1:((cr [] L).2 !=0)=true:=by simpa using hEx
       generalize strOfNums (cr [] L).1=O at*;generalize(cr [] L).2=EE at*;generalize gV R=m at*;generalize gR R=R2 at*;generalize ce (bt R) R.size=E2 at*;clear hg hd h6 ha h7 hEx hh;go_enter Tryz.func71,Tryz.ntmps71
       go_wp2_with(first
        |(go_at_call 102;refine(HX.o _ _ _ _ Q4.o).mono ?_;rintro e w5 ⟨rfl,hj⟩;have hm:=h_ (hf.o.trans (hj.mono hf.o.size));clear hj)
        |(go_at_call 101;refine(HM.o _).mono ?_;rintro e w4 ⟨A4,n4,c4,rfl,hc,q4⟩;have Q4:=h_ q4;have hf:=h_ hc;clear q4 hc)
        |(go_at_call 100;refine(H1D.o _).mono ?_;rintro e w3 ⟨rfl,rfl⟩)
        |(go_at_call 100;refine h0.o.mono ?_;rintro e w2 ⟨rfl,rfl⟩;have H1D:=he))
       exact HP.o _ hm.o
    ·have HP:=h_ (h6.o (Y2 hg));by_cases hE:ce (bt R) R.size=0
     ·have d1:(ce (bt R) R.size !=0)=false:=by rw [hE];rfl
      have d2:=dT (show 512 <c9 (bt R) R.size by
      by_cases hv:512 <c9 (bt R) R.size
      ·exact hv
      ·exact absurd ⟨hE,by omega⟩ hg)
      clear hg hE h6 ha h7;generalize ce (bt R) R.size=E2 at*;generalize c9 (bt R) R.size=V2 at*;generalize ck (bt R) R.size=N2 at*;go_enter Tryz.func71,Tryz.ntmps71
      go_wp2_with(first
       |(go_at_call 100;refine(H1D.o _).mono ?_;rintro e w3 ⟨rfl,rfl⟩)
       |(go_at_call 100;refine h0.o.mono ?_;rintro e w2 ⟨rfl,rfl⟩;have H1D:=he))
      exact HP.o _ br
     ·have d1:(ce (bt R) R.size !=0)=true:=by simpa using hE
      clear hg hE h6 ha h7;generalize ce (bt R) R.size=E2 at*;generalize c9 (bt R) R.size=V2 at*;generalize ck (bt R) R.size=N2 at*;go_enter Tryz.func71,Tryz.ntmps71
      go_wp2_with(first
       |(go_at_call 100;refine(H1D.o _).mono ?_;rintro e w3 ⟨rfl,rfl⟩)
       |(go_at_call 100;refine h0.o.mono ?_;rintro e w2 ⟨rfl,rfl⟩;have H1D:=he))
      exact HP.o _ br
  ·have HP:=h_ (fun w'=>qd (w:=w) (w':=w') (I9 h h1));generalize kf t w=PP at*;by_cases hE:ce (bt (aw t 1)) (aw t 1).size=0
   ·have d1:(ce (bt (aw t 1)) (aw t 1).size !=0)=false:=by rw [hE];rfl
    have d2:=dT (show 512 <c9 (bt (aw t 1)) (aw t 1).size by
    by_cases hv:512 <c9 (bt (aw t 1)) (aw t 1).size
    ·exact hv
    ·exact absurd ⟨hE,by omega⟩ h1)
    clear h h1 hE hn;generalize ce (bt (aw t 1)) (aw t 1).size=E2 at*;generalize c9 (bt (aw t 1)) (aw t 1).size=V2 at*;generalize ck (bt (aw t 1)) (aw t 1).size=N2 at*;generalize bt t 0=K at*;go_enter Tryz.func71,Tryz.ntmps71;go_wp2_with(go_at_call 100;refine h0.o.mono ?_;rintro e w2 ⟨rfl,rfl⟩);exact HP.o _ br
   ·have d1:(ce (bt (aw t 1)) (aw t 1).size !=0)=true:=by simpa using hE
    clear h h1 hE hn;generalize ce (bt (aw t 1)) (aw t 1).size=E2 at*;generalize c9 (bt (aw t 1)) (aw t 1).size=V2 at*;generalize ck (bt (aw t 1)) (aw t 1).size=N2 at*;generalize bt t 0=K at*;go_enter Tryz.func71,Tryz.ntmps71;go_wp2_with(go_at_call 100;refine h0.o.mono ?_;rintro e w2 ⟨rfl,rfl⟩);exact HP.o _ br
end
section
theorem h0v(t:ByteArray)(w:World)(hs:t.size≤1048575):Calls Tryz.prog 45 #[.string t] w (kf t w):=by
 by_cases h:t.size=0
 ·exact j0y t w h
 ·by_cases h1:gOk (aw t 1)
  ·exact h0u t w hs h h1
  ·exact j0x t w hs h h1
theorem f0t(t:ByteArray)(w:World)(hs:t.size≤1048575):Calls Tryz.prog 71 #[.string t] w (kf t w):=by
 by_cases h:t.size=0
 ·exact j0s t w h
 ·exact j0t t w hs h
end
section
open Go.RowKit
theorem Kj(b:Nat)(cs:List ByteArray)(ws:List ae)(xs:List aa)(gs fr:List Int)(os:List OpD)(v:FsV)(n:Nat)(K G sz:Int)(D:Option Addr)(q d:Nat)(ps:List aa)(w:World)(h:FsT b cs ws xs gs fr os v w)(hd:au cs ws=0)(hr:ab w w.heap.size D q d aa.cells 2 ps)(hs0:0≤sz)(hs1:sz≤4096)(hpl:ps.length=npt sz.toNat):Calls Tryz.prog 20 #[.pointer (some ⟨b,0,none⟩),.int .i64 n,.agg #[.int .i64 K,.int .i64 G,.int .i64 sz,.slice D q d]] w (Lv (i8 cs ws n sz ps) sz (ps.map (dtT cs ws)) w):=by
 have g0:=hr.len;subst g0;have g7:ps.length≤8:=by rw [hpl];unfold npt;omega
 obtain⟨wa,hn⟩:∃wa,wa=((w.alloc (.cells #[.int .i64 K,.int .i64 G,.int .i64 sz,.slice D ps.length d] 67)).alloc (.cells cz 69)).alloc (.cells #[.int .i64 sz,.slice none 0 0] 69):=⟨_,rfl⟩;obtain⟨hI,hD⟩:=vk w (.cells #[.int .i64 K,.int .i64 G,.int .i64 sz,.slice D ps.length d] 67) (.cells cz 69) (.cells #[.int .i64 sz,.slice none 0 0] 69);obtain⟨hA,hv,hj⟩:=nj w (.cells #[.int .i64 K,.int .i64 G,.int .i64 sz,.slice D ps.length d] 67) (.cells cz 69) (.cells #[.int .i64 sz,.slice none 0 0] 69);rw [←hn]at hI hD hA hv hj;obtain⟨O,hO⟩:∃O,O=w.heap.size+1+1:=⟨_,rfl⟩;rw [←hO]at hj;have g6:w.heap.size+1 <O:=by omega
 have I0:Hid (DtI O sz (dtL cs ws ps 0) 0 none 0 wa wa):= {own:=af.nil _ _ _,out:=hj,below:=br,size:=by omega}
 have h3:Hid (∀W,Below O wa W→Below w.heap.size w W∧FsT b cs ws xs gs fr os v W∧ab W W.heap.size D ps.length d aa.cells 2 ps∧W.heap[w.heap.size]?=some (.cells #[.int .i64 K,.int .i64 G,.int .i64 sz,.slice D ps.length d] 67 (0,0))∧W.heap[w.heap.size+1]?=some (.cells cz 69 (0,0))):=fun W hW=>by have hb:Below w.heap.size w W:=hD.trans (hW.mono (by omega));exact⟨hb,h.below hb,(hr.below hb).more hb.size,(hW.block _ (by omega)).trans hA,(hW.block _ (by omega)).trans hv⟩
 have hM:=h_ hO;have hK:=h_ hn;have HD:=h_ hd;have hQ:=h_ hpl;clear h hd hr hD hA hv hj hI hn hO hpl;go_enter Tryz.func20,Tryz.ntmps20;go_wp2;rw [←hK.o,←hM.o];clear hK;go_loopw [20] (fun v6 wr=>∃(i:Nat) (A:Option Addr) (c:Nat),i≤ps.length∧v6= .int .i64 i∧Hid (A0 cs ws n sz ps i)∧Hid (DtI O sz (dtL cs ws ps i) i A c wa wr)) (fun v6 _=>ps.length- (intOf v6).toNat)
 case atStart=>exact⟨0,none,0,zl,rfl,h_ (fun k p hk=>by omega),I0.o⟩
 case round=>
  obtain⟨i,A,c,hi,rfl,hG,hP⟩:=hrel;rename World=>wr
  clear I0;by_cases hlt:i <ps.length
  ·obtain⟨h5,h2,h7,h4,h6⟩:=h3.o wr hP.o.below;obtain⟨p,hp⟩:∃p,ps[i]?=some p:=⟨_,gE hlt⟩;obtain⟨pc,pn⟩:=p;obtain⟨bd,od,rfl,hU,hB⟩:=h7.at_ i _ hp;have p0:wr.cell? ⟨bd,od+i*2,none⟩=some (.int .i64 pc):=by simpa using hB 0 _ rfl
   have p1:wr.cell? ⟨bd,od+i*2+1,none⟩=some (.int .i64 pn):=hB 1 _ rfl;have HP:=h_ hp;clear hB h5 h2 h7 h4 h6 hU hp;have hX:(i:Int) < (ps.length:Int):=by omega
   have G3:Hid (i+1≤maxLen∧(i+1)*16≤140737488355328):=by unfold maxLen Hid;omega
   have G4:Hid (0 <1):=by simp [Hid]
   have h9:=h_ (hP.o.alloc (.cells #[.int .i64 pc,.int .i64 pn] 89));have hS:Hid ((wr.alloc (.cells #[.int .i64 pc,.int .i64 pn] 89)).heap.size=wr.heap.size+1):=h_ (by simp);by_cases h0:pc=0
   ·subst h0;have G2:Hid (∀u∈(#[.string ⟨#[]⟩]:Array Value).toList,u.oneCell'=true):=by simp [Hid,Value.oneCell']
    have k1:=aj h9.o.out 1;go_wp2_with(at_builtin;go_loud (refine dx (size:=1) (bytes:=16) (base:=O+1) (H:=wr.heap.size+1) (news:= #[.string ⟨#[]⟩]) rfl rfl Tryz.underlying22 qf rfl G4.o h9.o.own rfl h9.o.size rfl hS.o rfl G2.o G3.o.1 G3.o.2 ?_);intro A3 c3 w3 ht hf hZ;obtain⟨q1,q2⟩:=h9.o.cells hf);have HF:=h_ (h9.o.add ht hf);go_roundw
    case rel=>exact⟨i+1,A3,c3,by omega,by go_num,Du hG.o HP.o (.inl rfl),by rw [Dw HP.o];have:=HF.o;unfold dtT;rw [if_pos rfl];exact this⟩
    case measure=>simp [intOf];omega
   ·have g1:(pc !=0)=true:=bN h0;obtain⟨h5,h2,h7,h4,h6⟩:=h3.o _ h9.o.below;have hH:=h_ (h0k (My v.cA v.cn v.cc cs v.wA v.wn v.wc ws n i pc pn (wr.alloc (.cells #[.int .i64 pc,.int .i64 pn] 89)).drew h2.drew.rc h2.drew.rw' (jz HD.o).2.2.2.2));have c0:=rc0 h2.box;have c1:=rc1 h2.box;have hm:=A_ wr (.cells #[.int .i64 pc,.int .i64 pn] 89);have c2:=rc0 hm;have c3:=rc1 hm;clear h5 h2 h7 h4 h6 hm;go_wp2;generalize wr.alloc (.cells #[.int .i64 pc,.int .i64 pn] 89)=w1 at*;go_region_law(refine eh rfl 44 rfl #[.agg #[.slice v.cA v.cn v.cc,.slice v.wA v.wn v.wc],.int .i64 n,.int .i64 i,.agg #[.int .i64 pc,.int .i64 pn]] (fun z:ByteArray×Int=>Value.tuple #[.string z.1,.int .i64 z.2]) (by simp [go_sem]) hH.o ?_;rintro⟨T,E⟩ w2 ⟨hF,hE⟩)
    all_goals
     simp only at hE;have hh:=h_ (h9.o.drew.go hF);clear c0 c1 c2 c3 hF p0 p1 g1;obtain⟨h5,h2,h7,h4,h6⟩:=h3.o _ hh.o.below;have he:=h_ h6;have hC:=h_ h5;have c2:=rc2 h4;have g5:=h_ h4;have hs:Hid ((cz:Array Value).all (·.oneCell')=true):=by simp [Hid,Value.oneCell']
     clear h5 h2 h7 h4 h6;rcases hE with⟨hok,rfl,rfl⟩|⟨hno,rfl⟩
     ·obtain⟨T,hT⟩:∃T,T=ptX cs ws ⟨pc,pn⟩:=⟨_,rfl⟩;have hJ:T.size≤1048575:=by rw [hT];exact Nat.le_trans (sg HD.o pc pn) (by decide)
      rw [←hT];obtain⟨u,hu⟩:∃u,u=(jd T).1:=⟨_,rfl⟩;obtain⟨e2,hx⟩:∃e2,e2=(jd T).2:=⟨_,rfl⟩;have hq:Hid (∀W,Calls Tryz.prog 45 #[.string T] W fun e w'=>e= .returned (.tuple #[.string u,.int .i64 e2])∧Below W.heap.size W w'):=fun W=>by rw [hu,hx];exact h0v T W hJ
      obtain⟨Wd,hz⟩:∃Wd,Wd=wid sz.toNat i:=⟨_,rfl⟩
      have hw:Hid (mp cs ws n sz i ⟨pc,pn⟩↔e2=0∧u.size=Wd):=h_ (by
 rw [hu,hx,hz,hT]
 exact⟨fun h=>by rcases h with h|h;exact absurd h h0;exact h.2,fun h=>.inr ⟨hok,h⟩⟩)
      have HU:Hid (dtT cs ws ⟨pc,pn⟩=u):=h_ (by rw [hu,hT];unfold dtT;rw [if_neg h0]);have hV:512*(i:Int) <sz:=by have:=hQ.o;unfold npt at this;omega
      have m1:wrap64 ((i:Int)*512)=(i:Int)*512:=by unfold wrap64;omega
      have m2:wrap64 (sz- (i:Int)*512)=sz- (i:Int)*512:=by unfold wrap64;omega
      have m3:(if sz- (i:Int)*512 <512 then sz- (i:Int)*512 else 512)=(Wd:Int):=by rw [hz];unfold wid;split<;>omega
      clear hT hJ hu hx hz hok hH hV;by_cases he0:e2=0
      ·subst he0;have g4:Hid (Wd≤512):=h_ (by split at m3<;>omega);by_cases hsz:u.size=Wd
       ·have G2:Hid (∀z∈(#[.string u]:Array Value).toList,z.oneCell'=true):=by simp [Hid,Value.oneCell']
        go_wp2_with(first
         |(at_builtin;refine dx (size:=1) (bytes:=16) (base:=O+1) (news:= #[.string u]) rfl rfl Tryz.underlying22 qf rfl G4.o h1.o.own rfl h1.o.size rfl rfl rfl G2.o G3.o.1 G3.o.2 ?_;intro A3 c3 w4 ht hf hZ;obtain⟨q1,q2⟩:=h1.o.cells hf)
         |(go_at_call 45;refine(hq.o _).mono ?_;rintro e w3 ⟨rfl,h8⟩;have h1:=h_ (hh.o.go h8);have k1:=aj h1.o.out 1;have c2:w3.cell? ⟨w.heap.size,2,none⟩=some (.int .i64 sz):=aj (h3.o _ h1.o.below).2.2.2.1 2;clear h8))
        have HF:=h_ (h1.o.add ht hf);have hY:=h_ (hw.o.2 ⟨trivial,hsz⟩);go_roundw
        case rel=>exact⟨i+1,A3,c3,by omega,by go_num,Du hG.o HP.o hY.o,by rw [Dw HP.o,HU.o];exact HF.o⟩
        case measure=>simp [intOf];omega
       ·have g3:((u.size:Int)!=(Wd:Int))=true:=bN (fun e=>hsz (by omega));have hg:Hid (¬mp cs ws n sz i ⟨pc,pn⟩):=h_ (fun h=>hsz (hw.o.1 h).2)
        go_wp2_with(first
         |(refine wpList_store_rowTo rfl _ _ _ rfl rfl (w.heap.size+1) cz rfl rfl 69 cz hc.o lq rfl hs.o ?_)
         |(go_at_call 45;refine(hq.o _).mono ?_;rintro e w3 ⟨rfl,h8⟩;have h1:=h_ (hh.o.go h8);have c2:w3.cell? ⟨w.heap.size,2,none⟩=some (.int .i64 sz):=aj (h3.o _ h1.o.below).2.2.2.1 2;have hc:=h_ (h3.o _ h1.o.below).2.2.2.2;have hy:=h_ (h3.o _ h1.o.below).1;clear h8))
        refine bodyPost_ret (cv rfl _ _ (w.heap.size+1) 69 cz (0,0) _ rfl (bh hc.o) Tryz.underlying69 rfl lq) rfl ?_;exact⟨(0,none,0,0,18),rfl,⟨fun h=>absurd h (pb HP.o hg.o),fun h=>by cases h⟩,below_setRow hy.o (by omega) _,(fun a ha=>by cases ha),.inr ⟨pb HP.o hg.o,rfl,rfl,rfl,rfl⟩⟩
      ·have g3:(e2 !=0)=true:=bN he0;have hg:Hid (¬mp cs ws n sz i ⟨pc,pn⟩):=h_ (fun h=>he0 (hw.o.1 h).1)
       go_wp2_with(first
        |(refine wpList_store_rowTo rfl _ _ _ rfl rfl (w.heap.size+1) cz rfl rfl 69 cz hc.o lq rfl hs.o ?_)
        |(go_at_call 45;refine(hq.o _).mono ?_;rintro e w3 ⟨rfl,h8⟩;have h1:=h_ (hh.o.go h8);have c2:w3.cell? ⟨w.heap.size,2,none⟩=some (.int .i64 sz):=aj (h3.o _ h1.o.below).2.2.2.1 2;have hc:=h_ (h3.o _ h1.o.below).2.2.2.2;have hy:=h_ (h3.o _ h1.o.below).1;clear h8))
       refine bodyPost_ret (cv rfl _ _ (w.heap.size+1) 69 cz (0,0) _ rfl (bh hc.o) Tryz.underlying69 rfl lq) rfl ?_;exact⟨(0,none,0,0,18),rfl,⟨fun h=>absurd h (pb HP.o hg.o),fun h=>by cases h⟩,below_setRow hy.o (by omega) _,(fun a ha=>by cases ha),.inr ⟨pb HP.o hg.o,rfl,rfl,rfl,rfl⟩⟩
     ·go_wp2_with(refine wpList_store_rowTo rfl _ _ _ rfl rfl (w.heap.size+1) cz rfl rfl 69 cz he.o lq rfl hs.o ?_)
      have hN:¬mp cs ws n sz i ⟨pc,pn⟩:=fun h=>by
       rcases h with h|h
       ·exact h0 h
       ·exact hno h.1
      refine bodyPost_ret (cv rfl _ _ (w.heap.size+1) 69 cz (0,0) _ rfl (bh he.o) Tryz.underlying69 rfl lq) rfl ?_;exact⟨(0,none,0,0,18),rfl,⟨fun h=>absurd h (pb HP.o hN),fun h=>by cases h⟩,below_setRow hC.o (by omega) _,(fun a ha=>by cases ha),.inr ⟨pb HP.o hN,rfl,rfl,rfl,rfl⟩⟩
  ·obtain rfl:i=ps.length:=by omega
   obtain⟨h5,h2,h7,h4,h6⟩:=h3.o wr hP.o.below;have m0:=aj hP.o.out 0;have m1:=aj hP.o.out 1;have g2:Hid ((#[.int .i64 sz,.slice A ps.length c]:Array Value).all (·.oneCell')=true):=by simp [Hid,Value.oneCell']
   have hX:¬(ps.length:Int) < (ps.length:Int):=by omega
   have he:=h_ h6;have hC:=h_ h5;clear hlt hi h5 h2 h7 h4 h6;go_wp2_with(refine wpList_store_rowTo rfl _ _ _ rfl rfl (w.heap.size+1) #[.int .i64 sz,.slice A ps.length c] rfl rfl 69 cz he.o lq rfl g2.o ?_);refine bodyPost_ret (cv rfl _ _ (w.heap.size+1) 69 #[.int .i64 sz,.slice A ps.length c] (0,0) _ rfl (bh he.o) Tryz.underlying69 rfl lq) rfl ?_;have hL:dtL cs ws ps ps.length=ps.map (dtT cs ws):=by unfold dtL;rw [List.take_length]
   refine⟨(sz,A,ps.length,c,0),rfl,⟨fun _=>rfl,fun _=>Dv.1 hG.o⟩,below_setRow hC.o (by omega) _,(fun a ha=>by have:=(hP.o.own.lt a.block (by have hR:A=some a:=ha;rw [hR];rfl)).1;have:=hM.o;omega),.inl ⟨Dv.1 hG.o,rfl,?_⟩⟩;rw [←hL];exact C7 (hP.o.own.setRow (by omega) _)
end
end Go.Proofs.YtcldpfhpkbeaiadGreat
