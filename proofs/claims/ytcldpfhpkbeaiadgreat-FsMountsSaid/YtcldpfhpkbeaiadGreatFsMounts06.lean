/- A part of the proof of FsMounts. No condition of ours. -/
import Derived.Test.YtcldpfhpkbeaiadGreatFsMounts05
import Derived.BigRegion
set_option maxRecDepth 20000
set_option maxHeartbeats 2000000
namespace Go.Proofs.YtcldpfhpkbeaiadGreat
section
open Go.RowKit Go.PlainAid
theorem wh(s:ByteArray)(w:World):Calls Tryz.prog 87 #[.string s] w fun e w'=>e= .returned (.tuple #[.int .u64 (c9 (bt s) s.size),.int .i64 (ck (bt s) s.size),.int .i64 (ce (bt s) s.size)])∧w=w':=by
 have hc:=get_bt s;go_enter Tryz.func87,Tryz.ntmps87;go_wp2;go_loop [5,6] (fun v5 v6=>∃(k:Nat) (v:Int),k≤cd (bt s) s.size∧Hid (v=dq (bt s) k)∧v6= .int .i64 k∧v5= .int .u64 v) (fun _ v6=>10- (intOf v6).toNat)
 case atStart=>exact⟨0,0,zl,rfl,rfl,rfl⟩
 case round=>
  obtain⟨k,v,hk,hv,rfl,rfl⟩:=hrel;obtain⟨h8,hf,h0,h3⟩:=wj (bt s) s.size;have h5:=bt_nonneg s k;have h4:=bt_le s k;by_cases hlt:k <cd (bt s) s.size
  ·have hb:=h0 k hlt;clear h0 h3;go_wp2
   all_goals
    go_round
    case rel=>exact⟨k+1,_,by omega,rfl,by go_num,lw (Ty (bt s) k v hv.o h5 h4 (by omega) (by omega))⟩
    case measure=>simp [intOf];omega
  ·obtain rfl:k=cd (bt s) s.size:=by omega
   by_cases hend:cd (bt s) s.size=s.size
   ·have F:=h_ (De hend);have ha:((cd (bt s) s.size:Int)==(s.size:Int))=true:=by rw [hend];simp
    clear h0 h3 hend;go_wp2;go_ret3;exact⟨lg F.o.2.2.symm F.o.2.1.symm F.o.1.symm,rfl⟩
   ·have ha:((cd (bt s) s.size:Int)==(s.size:Int))=false:=by simp;omega
    have hg:cd (bt s) s.size <s.size:=by omega
    have he:cd (bt s) s.size <10:=by omega
    by_cases hbad:(cd (bt s) s.size=9∧1 <bt s (cd (bt s) s.size))∨(0 <cd (bt s) s.size∧bt s (cd (bt s) s.size)=0)
    ·have F:=h_ (Jp hend hbad);have HB:=h_ hbad;clear h0 h3 hbad;go_wp2
     all_goals first
      |(go_ret3;exact⟨lg F.o.2.2.symm F.o.2.1.symm F.o.1.symm,rfl⟩)
      |(exfalso;rcases HB.o with⟨h1,h2⟩|⟨h1,h2⟩<;>first|omega|(simp_all;done))
    ·have F:=h_ (Jn hend hbad);have hx:cd (bt s) s.size <9→bt s (cd (bt s) s.size) <128:=fun h=>h3 (by omega) h
     have h9:cd (bt s) s.size=9→bt s (cd (bt s) s.size)≤1:=fun h=>by
      rcases Int.lt_or_le 1 (bt s (cd (bt s) s.size))with h1|h1
      ·exact absurd (Or.inl ⟨h,h1⟩) hbad
      ·exact h1
     have hz:0 <cd (bt s) s.size→(bt s (cd (bt s) s.size)==0)=false:=fun h=>by rw [beq_eq_false_iff_ne];exact fun e=>hbad (Or.inr ⟨h,e⟩)
     have HV:=h_ (Ty (bt s) (cd (bt s) s.size) v hv.o h5 h4 h8 h9);clear h0 h3 hbad;rcases(show cd (bt s) s.size=9∨(0 <cd (bt s) s.size∧cd (bt s) s.size <9)∨cd (bt s) s.size≤0 by omega)with h|⟨h,h'⟩|h
     ·have hd:=h9 h;have h7:=hz (by omega);have h1:9≤cd (bt s) s.size:=by omega
      have H9:=h_ h;clear h h9 hz hx;go_wp2;go_ret3;exact⟨lg (by rw [F.o.2.2,←HV.o,H9.o];simp) (by rw [F.o.2.1,H9.o];rfl) F.o.1.symm,rfl⟩
     ·have h7:=hz h;have h6:=hx h';clear h9 hz hx;go_wp2;go_ret3;exact⟨lg (by rw [F.o.2.2,←HV.o]) F.o.2.1.symm F.o.1.symm,rfl⟩
     ·have h6:=hx (by omega);clear h9 hz hx;go_wp2;go_ret3;exact⟨lg (by rw [F.o.2.2,←HV.o]) F.o.2.1.symm F.o.1.symm,rfl⟩
theorem q0e(s:ByteArray)(w:World)(hs:s.size≤9223372036854775807)(K:Nat)(hK:cd (bt s) s.size=K)(c:(K=9)∨(0 <K∧K <9)∨K=0):Calls Tryz.prog 100 #[.string s] w fun e w'=>e= .returned (.tuple #[.int .u64 (c9 (bt s) s.size),.int .i64 (ck (bt s) s.size),.int .i64 (ce (bt s) s.size)])∧w=w':=by
 have hw:=get_bt s;have hf:=bt_nonneg s;have hj:=bt_le s;obtain⟨ht,hr,he,hd⟩:=wj (bt s) s.size;have FE:= @De (bt s) s.size;have FF:= @Jp (bt s) s.size;have FO:= @Jn (bt s) s.size;have FT:=Mu (bt s) s.size hf;rw [hK]at ht hr he hd FE FF FO FT;have HB:=h_ he;have HE:=h_ hd;have h8:=h_ FE;have ha:=h_ FF;have hh:=h_ FO;have hg:=h_ FT;have h7:=h_ hf;have h6:=h_ hj;clear he hd FE FF FO FT hK hf hj;have hu:=h7.o K;have hy:=h6.o K;rcases c with rfl|⟨hc,hc'⟩|rfl
 all_goals
  go_enter Tryz.func100,Tryz.ntmps100;go_wp2
 ·go_loop [5] (fun v5=>∃k:Nat,k≤9∧v5= .int .i64 k) (fun v5=>10- (intOf v5).toNat)
  case atStart=>exact⟨0,zl,rfl⟩
  case round=>
   obtain⟨k,hk,rfl⟩:=hrel;by_cases hlt:k <9
   ·have hb:=HB.o k hlt;have h5:((k:Int)==9)=false:=by rw [beq_eq_false_iff_ne];omega
    go_wp2
    all_goals
     go_round
     case rel=>exact⟨k+1,by omega,by go_num⟩
     case measure=>simp [intOf];omega
   ·obtain rfl:k=9:=by omega
    by_cases hend:s.size=9
    ·have F:=h_ (h8.o hend.symm);have h4:(((9:Nat):Int)==(s.size:Int))=true:=by rw [hend];simp
     have h1:s.size≤9:=by omega
     clear hend;go_wp2;go_ret3;exact⟨lg F.o.2.2.symm F.o.2.1.symm F.o.1.symm,rfl⟩
    ·have h4:(((9:Nat):Int)==(s.size:Int))=false:=by rw [beq_eq_false_iff_ne];omega
     have h1:9 <s.size:=by omega
     have h0:9≠s.size:=by omega
     by_cases hbad:(9=9∧1 <bt s 9)∨(0 <9∧bt s 9=0)
     ·have F:=h_ (ha.o h0 (by first|exact hbad|simpa using hbad));rcases hbad with⟨_,h2⟩|⟨_,h2⟩
      ·clear hend h0;go_wp2
       all_goals go_ret3
       all_goals exact⟨lg F.o.2.2.symm F.o.2.1.symm F.o.1.symm,rfl⟩
      ·clear hend h0;go_wp2
       all_goals go_ret3
       all_goals exact⟨lg F.o.2.2.symm F.o.2.1.symm F.o.1.symm,rfl⟩
     ·have F:=h_ (hh.o h0 (by first|exact hbad|simpa using hbad));have HT:=h_ (hg.o F.o.1)
      have h9:bt s 9≤1:=by
       rcases Int.lt_or_le 1 (bt s 9)with h|h
       ·exact absurd (Or.inl ⟨rfl,h⟩) hbad
       ·exact h
      have hz:(bt s 9==0)=false:=by rw [beq_eq_false_iff_ne];exact fun e=>hbad (Or.inr ⟨by omega,e⟩)
      clear hend hbad h0;go_wp2;go_loop [6,7] (fun v6 v7=>∃i v:Int,-1≤i∧i≤9∧0≤v∧Hid (v*128^(i+1).toNat+dq (bt s) (i+1).toNat=dq (bt s) (9+1))∧v7= .int .i64 i∧v6= .int .u64 v) (fun _ v7=>(intOf v7+1).toNat)
      case atStart=>exact⟨9,0,by omega,by omega,by omega,by simp only [Hid];rw [show((9:Int)+1).toNat=9+1 by omega];omega,rfl,rfl⟩
      case round=>
       obtain⟨i,v,hn,hq,h3,hv,rfl,rfl⟩:=hrel;by_cases hi:0≤i
       ·have hp:=h7.o i.toNat;have hm:=h6.o i.toNat;obtain⟨q1,q2,q3⟩:=Jh (bt s) _ v i.toNat h3 (by rw [←hv.o,show(i+1).toNat=i.toNat+1 by omega]) HT.o;have Q1:=h_ q1;clear q1;go_wp2;go_round
        case rel=>exact⟨i-1,_,by omega,by omega,by omega,by simp only [Hid];rw [show(i-1+1).toNat=i.toNat by omega];exact Q1.o,by go_num,rfl⟩
        case measure=>simp [intOf];omega
       ·go_wp2;go_ret3;exact⟨lg (by rw [F.o.2.2,←hv.o,show i= -1 by omega];simp [dq]) (by have:=F.o.2.1;omega) F.o.1.symm,rfl⟩
 ·go_loop [5] (fun v5=>∃k:Nat,k≤K∧v5= .int .i64 k) (fun v5=>10- (intOf v5).toNat)
  case atStart=>exact⟨0,zl,rfl⟩
  case round=>
   obtain⟨k,hk,rfl⟩:=hrel;by_cases hlt:k <K
   ·have hb:=HB.o k hlt;have h5:((k:Int)==9)=false:=by rw [beq_eq_false_iff_ne];omega
    go_wp2
    all_goals
     go_round
     case rel=>exact⟨k+1,by omega,by go_num⟩
     case measure=>simp [intOf];omega
   ·obtain rfl:k=K:=by omega
    by_cases hend:s.size=k
    ·have F:=h_ (h8.o hend.symm);have h4:(((k:Nat):Int)==(s.size:Int))=true:=by rw [hend];simp
     have h1:s.size≤k:=by omega
     clear hend;have h5:((k:Int)==9)=false:=by rw [beq_eq_false_iff_ne];omega
     go_wp2;go_ret3;exact⟨lg F.o.2.2.symm F.o.2.1.symm F.o.1.symm,rfl⟩
    ·have h4:(((k:Nat):Int)==(s.size:Int))=false:=by rw [beq_eq_false_iff_ne];omega
     have h1:k <s.size:=by omega
     have h0:k≠s.size:=by omega
     have h5:((k:Int)==9)=false:=by rw [beq_eq_false_iff_ne];omega
     by_cases hbad:(k=9∧1 <bt s k)∨(0 <k∧bt s k=0)
     ·have F:=h_ (ha.o h0 (by first|exact hbad|simpa using hbad));have h2:bt s k=0:=by rcases hbad with⟨h,_⟩|⟨_,h⟩<;>first|omega|exact h
      clear hend h0 hbad;go_wp2;go_ret3;exact⟨lg F.o.2.2.symm F.o.2.1.symm F.o.1.symm,rfl⟩
     ·have F:=h_ (hh.o h0 (by first|exact hbad|simpa using hbad));have HT:=h_ (hg.o F.o.1)
      have hz:(bt s k==0)=false:=by rw [beq_eq_false_iff_ne];exact fun e=>hbad (Or.inr ⟨by omega,e⟩)
      have hx:=HE.o h1 hc';clear hend hbad h0;go_wp2;go_loop [6,7] (fun v6 v7=>∃i v:Int,-1≤i∧i≤k∧0≤v∧Hid (v*128^(i+1).toNat+dq (bt s) (i+1).toNat=dq (bt s) (k+1))∧v7= .int .i64 i∧v6= .int .u64 v) (fun _ v7=>(intOf v7+1).toNat)
      case atStart=>exact⟨k,0,by omega,by omega,by omega,by simp only [Hid];rw [show((k:Int)+1).toNat=k+1 by omega];omega,rfl,rfl⟩
      case round=>
       obtain⟨i,v,hn,hq,h3,hv,rfl,rfl⟩:=hrel;by_cases hi:0≤i
       ·have hp:=h7.o i.toNat;have hm:=h6.o i.toNat;obtain⟨q1,q2,q3⟩:=Jh (bt s) _ v i.toNat h3 (by rw [←hv.o,show(i+1).toNat=i.toNat+1 by omega]) HT.o;have Q1:=h_ q1;clear q1;go_wp2;go_round
        case rel=>exact⟨i-1,_,by omega,by omega,by omega,by simp only [Hid];rw [show(i-1+1).toNat=i.toNat by omega];exact Q1.o,by go_num,rfl⟩
        case measure=>simp [intOf];omega
       ·go_wp2;go_ret3;exact⟨lg (by rw [F.o.2.2,←hv.o,show i= -1 by omega];simp [dq]) (by have:=F.o.2.1;omega) F.o.1.symm,rfl⟩
 ·go_loop [5] (fun v5=>∃k:Nat,k≤0∧v5= .int .i64 k) (fun v5=>10- (intOf v5).toNat)
  case atStart=>exact⟨0,zl,rfl⟩
  case round=>
   obtain⟨k,hk,rfl⟩:=hrel;by_cases hlt:k <0
   ·have hb:=HB.o k hlt;have h5:((k:Int)==9)=false:=by rw [beq_eq_false_iff_ne];omega
    go_wp2
    all_goals
     go_round
     case rel=>exact⟨k+1,by omega,by go_num⟩
     case measure=>simp [intOf];omega
   ·obtain rfl:k=0:=by omega
    by_cases hend:s.size=0
    ·have F:=h_ (h8.o hend.symm);have h4:(((0:Nat):Int)==(s.size:Int))=true:=by rw [hend];simp
     have h1:s.size≤0:=by omega
     clear hend;go_wp2;go_ret3;exact⟨lg F.o.2.2.symm F.o.2.1.symm F.o.1.symm,rfl⟩
    ·have h4:(((0:Nat):Int)==(s.size:Int))=false:=by rw [beq_eq_false_iff_ne];omega
     have h1:0 <s.size:=by omega
     have h0:0≠s.size:=by omega
     by_cases hbad:(0=9∧1 <bt s 0)∨(0 <0∧bt s 0=0)
     ·have F:=h_ (ha.o h0 (by first|exact hbad|simpa using hbad));exfalso;rcases hbad with⟨h,_⟩|⟨h,_⟩<;>omega
     ·have F:=h_ (hh.o h0 (by first|exact hbad|simpa using hbad));have HT:=h_ (hg.o F.o.1);have hx:=HE.o h1 (by omega);clear hend hbad h0;go_wp2;go_loop [6,7] (fun v6 v7=>∃i v:Int,-1≤i∧i≤0∧0≤v∧Hid (v*128^(i+1).toNat+dq (bt s) (i+1).toNat=dq (bt s) (0+1))∧v7= .int .i64 i∧v6= .int .u64 v) (fun _ v7=>(intOf v7+1).toNat)
      case atStart=>exact⟨0,0,by omega,by omega,by omega,by simp only [Hid];rw [show((0:Int)+1).toNat=0+1 by omega];omega,rfl,rfl⟩
      case round=>
       obtain⟨i,v,hn,hq,h3,hv,rfl,rfl⟩:=hrel;by_cases hi:0≤i
       ·have hp:=h7.o i.toNat;have hm:=h6.o i.toNat;obtain⟨q1,q2,q3⟩:=Jh (bt s) _ v i.toNat h3 (by rw [←hv.o,show(i+1).toNat=i.toNat+1 by omega]) HT.o;have Q1:=h_ q1;clear q1;go_wp2;go_round
        case rel=>exact⟨i-1,_,by omega,by omega,by omega,by simp only [Hid];rw [show(i-1+1).toNat=i.toNat by omega];exact Q1.o,by go_num,rfl⟩
        case measure=>simp [intOf];omega
       ·go_wp2;go_ret3;exact⟨lg (by rw [F.o.2.2,←hv.o,show i= -1 by omega];simp [dq]) (by have:=F.o.2.1;omega) F.o.1.symm,rfl⟩
theorem ru(s:ByteArray)(w:World)(hs:s.size≤9223372036854775807):Calls Tryz.prog 100 #[.string s] w fun e w'=>e= .returned (.tuple #[.int .u64 (c9 (bt s) s.size),.int .i64 (ck (bt s) s.size),.int .i64 (ce (bt s) s.size)])∧w=w':=
 q0e s w hs _ rfl (by have:=(wj (bt s) s.size).1;omega)
end
section
open Go.RowKit
section
variable {w0 W W':World} {N:Nat}
theorem Tt{a0 a1:Addr}{v0 v1:Value}(h:W.cell? a0=some v0∧W.cell? a1=some v1∧N≤W.heap.size∧Below w0.heap.size w0 W):W.drew.cell? a0=some v0∧W.drew.cell? a1=some v1∧N≤W.drew.heap.size∧Below w0.heap.size w0 W.drew:=by obtain⟨h0,h1,hN,hw⟩:=h;exact⟨h0,h1,hN,hw.drew⟩
theorem J2{a0 a1:Addr}{v0 v1:Value}(h:W.cell? a0=some v0∧W.cell? a1=some v1∧N≤W.heap.size∧Below w0.heap.size w0 W):Below w0.heap.size w0 W:=by obtain⟨h0,h1,hN,hw⟩:=h;exact hw
theorem Tu{a0 a1:Addr}{v0 v1:Value}(b0:a0.block <N)(b1:a1.block <N)(h:W.cell? a0=some v0∧W.cell? a1=some v1∧N≤W.heap.size∧Below w0.heap.size w0 W)(hb:Below W.heap.size W W'):W'.cell? a0=some v0∧W'.cell? a1=some v1∧N≤W'.heap.size∧Below w0.heap.size w0 W':=by obtain⟨h0,h1,hN,hw⟩:=h;have hz:=hb.size;exact⟨(hb.cell (p:=a0) (by omega)).trans h0,(hb.cell (p:=a1) (by omega)).trans h1,by omega,hw.trans (hb.mono hw.size)⟩
theorem Tr{a0 a1 a2 a3:Addr}{v0 v1 v2 v3:Value}(h:W.cell? a0=some v0∧W.cell? a1=some v1∧W.cell? a2=some v2∧W.cell? a3=some v3∧N≤W.heap.size∧Below w0.heap.size w0 W):W.drew.cell? a0=some v0∧W.drew.cell? a1=some v1∧W.drew.cell? a2=some v2∧W.drew.cell? a3=some v3∧N≤W.drew.heap.size∧Below w0.heap.size w0 W.drew:=by obtain⟨h0,h1,h2,h3,hN,hw⟩:=h;exact⟨h0,h1,h2,h3,hN,hw.drew⟩
theorem Tq{a0 a1 a2 a3:Addr}{v0 v1 v2 v3:Value}(h:W.cell? a0=some v0∧W.cell? a1=some v1∧W.cell? a2=some v2∧W.cell? a3=some v3∧N≤W.heap.size∧Below w0.heap.size w0 W):Below w0.heap.size w0 W:=by obtain⟨h0,h1,h2,h3,hN,hw⟩:=h;exact hw
theorem Ts{a0 a1 a2 a3:Addr}{v0 v1 v2 v3:Value}(b0:a0.block <N)(b1:a1.block <N)(b2:a2.block <N)(b3:a3.block <N)(h:W.cell? a0=some v0∧W.cell? a1=some v1∧W.cell? a2=some v2∧W.cell? a3=some v3∧N≤W.heap.size∧Below w0.heap.size w0 W)(hb:Below W.heap.size W W'):W'.cell? a0=some v0∧W'.cell? a1=some v1∧W'.cell? a2=some v2∧W'.cell? a3=some v3∧N≤W'.heap.size∧Below w0.heap.size w0 W':=by obtain⟨h0,h1,h2,h3,hN,hw⟩:=h;have hz:=hb.size;exact⟨(hb.cell (p:=a0) (by omega)).trans h0,(hb.cell (p:=a1) (by omega)).trans h1,(hb.cell (p:=a2) (by omega)).trans h2,(hb.cell (p:=a3) (by omega)).trans h3,by omega,hw.trans (hb.mono hw.size)⟩
end
end
section
open Go.RowKit Go.PlainAid
theorem Ja:(Tryz.prog.info? 85).map (fun i=>(i.zero,i.size,i.bytes))=some (some (.agg #[.int .i64 0,.int .i64 0,.int .i64 0,.string ByteArray.empty]),4,40):=by kernel_rfl
theorem Ky:∀x:bz,x.cells.length=4:=fun _=>rfl
theorem Sk(w:World)(B:Nat):ab w B none 0 0 bz.cells 4 []:=⟨rfl,Nat.le_refl _,zl,fun i x h=>by simp at h⟩
def u9(s:ByteArray)(w:World)(e:Ending)(w':World):Prop:=∃A n c,e= .returned (.tuple #[.slice A n c,.bool (brB s),.int .i64 (brE s)])∧ab w' w'.heap.size A n c bz.cells 4 (brL s)∧Below w.heap.size w w'
theorem ke{s:ByteArray}{w w':World}(h:¬fd s)(hb:Below w.heap.size w w'):u9 s w (.returned (.tuple #[.slice none 0 0,.bool false,.int .i64 4])) w':=by obtain⟨a,b,c⟩:=Ks h;exact⟨none,0,0,by rw [a,c],by rw [b];exact Sk _ _,hb⟩
theorem o0b{w1 w2:World}{v0 v1 v2 v3:Value}{t:TypeId}(hb:Below (w1.alloc (.cells #[v0,v1,v2,v3] t)).drew.heap.size (w1.alloc (.cells #[v0,v1,v2,v3] t)).drew w2):w2.cell? ⟨w1.heap.size,0,none⟩=some v0∧w2.cell? ⟨w1.heap.size,1,none⟩=some v1∧w2.cell? ⟨w1.heap.size,2,none⟩=some v2∧w2.cell? ⟨w1.heap.size,3,none⟩=some v3∧w1.heap.size <w2.heap.size:=by
 have h:(w1.alloc (.cells #[v0,v1,v2,v3] t)).drew.heap[w1.heap.size]?=some (.cells #[v0,v1,v2,v3] t):=A_ w1 (.cells #[v0,v1,v2,v3] t);have hz:w1.heap.size < (w1.alloc (.cells #[v0,v1,v2,v3] t)).drew.heap.size:=by simp
 have h':=ah h hz hb;have:=hb.size;exact⟨aj h' 0,aj h' 1,aj h' 2,aj h' 3,by omega⟩
theorem u0y(s:ByteArray)(w:World):Calls Tryz.prog 51 #[.string s] w (u9 s w):=by
 have hd:=get_bt s;by_cases h0:2≤s.size∧s.size≤1000
 ·obtain⟨lo,hi⟩:=h0;have i0:0 <s.size:=by omega
  have i1:1 <s.size:=by omega
  by_cases hl:bt s 0≤1
  ·by_cases hm:bt s 1≤40
   ·obtain⟨J,hJ⟩:∃J:Nat,bt s 1=(J:Int):=⟨(bt s 1).toNat,by have:=bt_nonneg s 1;omega⟩;have HJ:=h_ hJ;have hG:J≤40:=by omega
    have HI:=h_ i1;have HL:=h_ hl;rw [hJ]at hm;go_enter Tryz.func51,Tryz.ntmps51;go_wp2;go_loopw [5,6,31] (fun v5 v6 v31 wr=>∃j p:Nat,j≤J∧p≤s.size∧BrI s j p∧v31= .int .u8 j∧v6= .int .i64 p∧af wr w.heap.size 4 v5 j ((cy s j).flatMap bz.cells)∧Below w.heap.size w wr) (fun _ _ v31 _=>J- (intOf v31).toNat)
    case atStart=>exact⟨0,2,zl,lo,BrI.start s,rfl,rfl,af.nil _ _ _,br⟩
    case round=>
     obtain⟨j,p,hj,hp,hI,rfl,rfl,h6,hb⟩:=hrel;obtain⟨A,c,rfl⟩:=h6.form;have hA:=hb.size;by_cases hlt:j <J
     ·have h2:=h_ (hI.not (by rw [HJ.o];omega));by_cases h3:p+3≤s.size
      ·have H:Hid (∀W,Calls Tryz.prog 87 #[.string (s.extract (p+3) s.size)] W fun e w'=>e= .returned (.tuple #[.int .u64 (c9 (bt (tl s (p+3))) (tl s (p+3)).size),.int .i64 (ck (bt (tl s (p+3))) (tl s (p+3)).size),.int .i64 (eE s p)])∧W=w'):=fun W=>wh _ W
       by_cases hE:eE s p=0
       ·obtain⟨a1,a2,a3,a4,a5,_⟩:=Dp (Vv hE) hE;have h4:=Vv hE;rw [a1,a2,hE]at H;have HE:=h_ hE;clear a1 a2 hE;have HX:=h_ hI.ents;have HS:=h_ (fun a b=>hI.step (p:=p) a b);have hh:Hid (∀n,n=eN s p→n=eN s p):=fun _ h=>h
        unfold ny at h2 HS;have hc:p+3+eK s p+eN s p≤s.size→jb s p:=fun h=>⟨h4,HE.o,h⟩
        have hg:¬p+3+eK s p+eN s p≤s.size→¬jb s p:=fun h k=>h k.fits
        generalize eK s p=K at*;generalize eN s p=N at*;by_cases hf:p+3+K+N≤s.size
        ·have hC:=hc hf;have g:(N:Int)≤(s.size:Int)-p-3-K:=by omega
         have hK:(K:Int)≤10:=by omega
         obtain⟨T,hT⟩:∃T,T=s.extract (p+3+K) (p+3+K+N):=⟨_,rfl⟩;have HT:=h_ hT;rw [←hT]at h2 HS HX;have C:=h_ (fun W=>v0z (bt s p) (bt s (p+1)) (bt s (p+2)) T W);clear hc hg hh;have y1:=bt_nonneg s p;have y2:=bt_le s p;have y3:=bt_nonneg s (p+1);have y4:=bt_le s (p+1);have y5:=bt_nonneg s (p+2);have y6:=bt_le s (p+2)
         have HF:Hid ((IntKind.i64.wrap ((p:Int)+1)=(p:Int)+1∧IntKind.i64.wrap ((p:Int)+2)=(p:Int)+2∧IntKind.i64.wrap ((p:Int)+3)=(p:Int)+3∧IntKind.i64.wrap ((p:Int)+3+(K:Int))=(p:Int)+3+(K:Int)∧IntKind.i64.wrap ((p:Int)+3+(K:Int)+(N:Int))=(p:Int)+3+(K:Int)+(N:Int))∧(IntKind.i64.wrap (bt s p)=bt s p∧IntKind.i64.wrap (bt s (p+1))=bt s (p+1)∧IntKind.i64.wrap (bt s (p+2))=bt s (p+2)∧IntKind.i64.wrap (N:Int)=(N:Int))):=by simp only [Hid,IntKind.wrap_i64];omega
         clear y1 y2 y3 y4 y5 y6
         have hcut:Hid (∀W:World,(Instr.sliceAt 9 (.string s) (some (.int .i64 ((p:Int)+3+(K:Int)))) (some (.int .i64 ((p:Int)+3+(K:Int)+(N:Int)))) none).run Tryz.prog W= .ok (.string T) W):=by have:=yp (P:=Tryz.prog) Tryz.underlying9 s (p+3+K) (p+3+K+N) (by omega) hf;rw [←hT]at this;simp only [Int.natCast_add,Int.cast_ofNat_Int]at this;exact this
         have hk:Hid ((∀W:World,(Instr.index 9 (.string s) (.int .i64 (p:Int))).run Tryz.prog W= .ok (.int .u8 (bt s p)) W)∧(∀W:World,(Instr.index 9 (.string s) (.int .i64 ((p:Int)+1))).run Tryz.prog W= .ok (.int .u8 (bt s (p+1))) W)∧(∀W:World,(Instr.index 9 (.string s) (.int .i64 ((p:Int)+2))).run Tryz.prog W= .ok (.int .u8 (bt s (p+2))) W)):=
          ⟨lf Tryz.underlying9 s _ p _ rfl (by omega) (hd p (by omega)),lf Tryz.underlying9 s _ (p+1) _ (by simp) (by omega) (hd (p+1) (by omega)),lf Tryz.underlying9 s _ (p+2) _ (by simp) (by omega) (hd (p+2) (by omega))⟩
         clear hT;go_wp2_with(go_at_call 87;refine(H.o _).mono ?_;rintro e w' ⟨rfl,rfl⟩);clear g hK a3 a4 a5 h4 h3;have hcut:=hcut.o;obtain⟨⟨f7,f8,f9,hn,hD⟩,⟨ht,hv,hw,hu⟩⟩:=HF.o;obtain⟨x1,x2,x3⟩:=hk.o;go_region;clear f7 f8 f9 hn hD ht hv hw hu x1 x2 x3 hcut;have ha:af (wr.alloc (.cells #[.int .i64 (bt s p),.int .i64 (bt s (p+1)),.int .i64 (bt s (p+2)),.string T] 85)).drew w.heap.size 4 (.slice A j c) j ((cy s j).flatMap bz.cells):=(h6.alloc _).drew;have h8:Below w.heap.size w (wr.alloc (.cells #[.int .i64 (bt s p),.int .i64 (bt s (p+1)),.int .i64 (bt s (p+2)),.string T] 85)).drew:=(hb.alloc hA _).drew;by_cases hB:ge (bt s p) (bt s (p+1)) (bt s (p+2)) T=0
         ·rw [hB]at C;have HN:=h_ (HS.o hC hB);have G2:Hid (∀u∈(#[.int .i64 (bt s p),.int .i64 (bt s (p+1)),.int .i64 (bt s (p+2)),.string T]:Array Value).toList,u.oneCell'=true):=by simp [Hid,Value.oneCell']
          have HO:=h_ ha;have h5:=h_ h8;generalize hU:(cy s j).flatMap bz.cells=U at*;clear hB hU HS h6 ha h8 hb
          go_wp2_with(first
           |(go_at_call 88;refine(C.o _).mono ?_;rintro e w1 ⟨rfl,h7⟩;obtain⟨k0,k1,k2,k3,kz⟩:=o0b h7;have hz:=h_ (HO.o.fresh_below h7);have h9:=h_ (h5.o.trans (h7.mono h5.o.size)))
           |(at_builtin;refine dx rfl rfl Tryz.underlying56 Ja rfl (by omega) hz.o rfl h9.o.size rfl rfl rfl G2.o ?_ ?_ ?_;(unfold maxLen;omega);omega;intro A3 c3 w3 hs hx hF;have hq:=h_ hs;have hr:=h_ (hx.below ler h9.o)))
          go_roundw
          case rel=>exact⟨j+1,p+3+K+N,by omega,hf,HN.o,by go_num,lw (by omega),by rw [HX.o];exact hq.o,hr.o⟩
          case measure=>(simp [intOf];try omega)
         ·have hy:(ge (bt s p) (bt s (p+1)) (bt s (p+2)) T !=0)=true:=bN hB;have F:=h_ (h2.o fun k=>hB k.2);have h5:=h_ h8;clear HS HX h2;generalize ge (bt s p) (bt s (p+1)) (bt s (p+2)) T=ee at*;clear hB h6 ha h8 hb;go_wp2_with(go_at_call 88;refine(C.o _).mono ?_;rintro e w1 ⟨rfl,h7⟩;have h9:=h_ (h5.o.trans (h7.mono h5.o.size)));go_ret3;exact ke F.o h9.o
        ·have F:=h_ (h2.o fun k=>hg hf k.1);have g:(s.size:Int)-p-3-K < (N:Int):=by omega
         have hK:(K:Int)≤10:=by omega
         clear hc hg HS hh HX;go_wp2_with(go_at_call 87;refine(H.o _).mono ?_;rintro e w' ⟨rfl,rfl⟩);go_ret3;exact ke F.o hb
       ·have hy:(eE s p !=0)=true:=bN hE;have F:=h_ (h2.o fun k=>hE k.1.num);clear hE;generalize c9 (bt (tl s (p+3))) (tl s (p+3)).size=V at*;generalize ck (bt (tl s (p+3))) (tl s (p+3)).size=NN at*;generalize eE s p=E at*;go_wp2_with(go_at_call 87;refine(H.o _).mono ?_;rintro e w' ⟨rfl,rfl⟩);go_ret3;exact ke F.o hb
      ·have F:=h_ (h2.o fun k=>by have:=k.1.four;omega);have g:(s.size:Int) < (p:Int)+3:=by omega
       go_wp2;go_ret3;exact ke F.o hb
     ·obtain rfl:j=J:=by omega
      by_cases he:p=s.size
      ·have F:=xk (hI.ok HJ.o he lo hi HL.o (by have:=HJ.o;omega));have hT:(bt s 1).toNat=j:=by have:=HJ.o;omega
       rw [hT]at F;have FF:=h_ F;have HO:=h_ (h6.rows Ky (by omega));obtain rfl:=he;have q0:(0:Int) < (s.size:Int):=by omega
       clear hT F hI;generalize hb0:bt s 0=B0 at*;by_cases h1:B0=1
       ·have g1:(B0==1)=true:=beq_iff_eq.2 h1;rw [g1]at FF;clear h1;go_wp2;go_quiet(fail);go_wp2;go_ret3;exact⟨A,j,c,by rw [FF.o.1,FF.o.2.2];rfl,by rw [FF.o.2.1];exact HO.o.drewN _,below_drewN hb _⟩
       ·have g1:(B0==1)=false:=bF h1;rw [g1]at FF;clear h1;go_wp2;go_quiet(fail);go_wp2;go_ret3;exact⟨A,j,c,by rw [FF.o.1,FF.o.2.2];rfl,by rw [FF.o.2.1];exact HO.o.drewN _,below_drewN hb _⟩
      ·have F:=h_ (hI.end_ HJ.o he);have g:((p:Int)!=(s.size:Int))=true:=by rw [bne_iff_ne];omega
       clear he;go_wp2;go_ret3;exact ke F.o hb
   ·have F:=h_ (show ¬fd s from fun k=>hm k.many);go_enter Tryz.func51,Tryz.ntmps51;go_wp2;go_ret3;exact ke F.o br
  ·have F:=h_ (show ¬fd s from fun k=>hl k.last);go_enter Tryz.func51,Tryz.ntmps51;go_wp2;go_ret3;exact ke F.o br
 ·have F:=h_ (show ¬fd s from fun k=>h0 ⟨k.lo,k.hi⟩);rcases(show s.size <2∨(2≤s.size∧1000 <s.size) by omega)with h|⟨h,h'⟩
  all_goals
   go_enter Tryz.func51,Tryz.ntmps51;go_wp2;go_ret3;exact ke F.o br
end
section
open Go.RowKit
theorem h0f(n:Int)(w:World)(h0:0≤n)(h1:n≤18446744073709551615):Calls Tryz.prog 91 #[.int .u64 n] w fun e w'=>e= .returned (.string (strOfNums (k8 n)))∧Below w.heap.size w w':=by
 go_enter Tryz.func91,Tryz.ntmps91;go_wp2;go_loopw [0,3] (fun v0 v3 wr=>∃(f:Nat) (m:Int) (bs:List Int),f≤9∧0≤m∧m≤18446744073709551615∧x9 f m∧Hid (bs++kx f m=k8 n)∧bs.length+f≤9∧v0= .int .u64 m∧wr.ownsRow w.heap.size 5 1 v3 bs.length (bs.map (Value.int .u8))∧Below w.heap.size w wr) (fun v0 _ _=>(intOf v0).toNat)
 case atStart=>exact⟨9,n,[],by omega,h0,h1,Vd h0 h1,by simp [Hid,k8],by simp,rfl,World.ownsRow_nil _ _ _ _,br⟩
 case round=>
  obtain⟨f,m,bs,hf,hc,hd,hm,h6,hl,rfl,h7,h3⟩:=hrel;have h5:=h3.size;by_cases hlt:m <128
  ·go_wp2_with(first
    |(at_builtin;refine Mc rfl rfl Tryz.underlying159 tc rfl (Nat.le_refl 1) h7 rfl h5 rfl rfl ?_ ?_ ?_ ?_;simp [Value.oneCell'];unfold maxLen;omega;omega;intro v' w' h2 h4 ha;have h9:w'.ownsRow w.heap.size 5 1 v' (bs.length+1) ((bs++[m]).map (Value.int .u8)):=by simpa using h2)
    |(refine Ma rfl rfl Tryz.underlying159 Tryz.underlying5 Tryz.underlying9 h9 rfl ?_))
   go_ret;exact⟨sq (by rw [←h6.o,Gt f m hlt]),h4.below ler h3⟩
  ·have h8:∃f',f=f'+1:=by
    cases f with
    |zero=>exact absurd (Vc hm) hlt
    |succ f=>exact⟨f,rfl⟩
   obtain⟨f,rfl⟩:=h8
   go_wp2_with(first
    |(at_builtin;refine Mc rfl rfl Tryz.underlying159 tc rfl (Nat.le_refl 1) h7 rfl h5 rfl rfl ?_ ?_ ?_ ?_;simp [Value.oneCell'];unfold maxLen;omega;omega;intro v' w' h2 h4 ha))
   rw [h0e m]at h2;go_roundw
   case rel=>exact⟨f,m/128,bs++[128+m%128],by omega,by omega,by omega,Ve hm,by simp only [Hid];rw [←h6.o,Gu f m hlt];simp,by simp;omega,by go_num,by simpa using h2,h4.below ler h3⟩
   case measure=>simp [intOf];omega
theorem h0a(f:Nat):∀(n:Int) (w:World),0≤n→x9 f n→n≤18446744073709551615→f≤9→
 Calls Tryz.prog 159 #[.int .u64 n] w fun e w'=>e= .returned (.string (strOfNums (kx f n)))∧Below w.heap.size w w':=by
 induction f with
 |zero=>
  intro m w h0 h1 h2 _
  have h3:=Vc h1
  have h4:=uq (P:=Tryz.prog) Tryz.underlying159 Tryz.underlying5 Tryz.underlying9 m
  go_enter Tryz.func159,Tryz.ntmps159
  go_wp2_with fail
  go_ret
  exact⟨rfl,br.alloc ler _⟩
 |succ f ih=>
  intro m w h0 h1 h2 hf
  have HI:=h_ ih
  clear ih
  by_cases h3:m <128
  ·have h4:=uq (P:=Tryz.prog) Tryz.underlying159 Tryz.underlying5 Tryz.underlying9 m
   go_enter Tryz.func159,Tryz.ntmps159
   go_wp2_with fail
   go_ret
   exact⟨sq (by rw [Gt _ _ h3]),br.alloc ler _⟩
  ·have h6:=Ve h1
   have h4:=uq (P:=Tryz.prog) Tryz.underlying159 Tryz.underlying5 Tryz.underlying9 (128+m%128)
   have hl:=yt f (m/128)
   have hc:=fq (P:=Tryz.prog) [128+m%128] (kx f (m/128)) (by simp;omega)
   clear hl
   go_enter Tryz.func159,Tryz.ntmps159
   go_wp2_with fail
   have h9:0≤m/128:=by omega
   have h8:m/128≤18446744073709551615:=by omega
   have h5:f≤9:=by omega
   obtain⟨e1,e2,e3,e4,e5⟩:=h0d m h0 h2
   go_region_with (go_at_call 159;refine(HI.o _ _ h9 h6 h8 h5).mono ?_;rintro e w' ⟨rfl,hb⟩;obtain⟨ha,h7⟩:=k0f hb;clear h7)
   all_goals
    go_wp2
    go_ret
    refine⟨sq (by rw [Gu f m (by omega)]),?_⟩
    first
     |exact((br.alloc ler _).drew).trans (hb.mono (by simp))
     |exact((br.drew).trans (hb.mono (by simp))).alloc (by have:=hb.size;simpa using this) _
theorem kw{a b:Bool}(h:a=b):Ending.returned (.bool a)= .returned (.bool b):=by rw [h]
theorem Vf{G B:Nat→Prop}(n:Nat)(h:∀i,i <n→G i∨B i):∃J,J≤n∧(∀i,i <J→G i)∧(J <n→B J):=by
 induction n with
 |zero=>exact⟨0,Nat.le_refl _,fun i hi=>by omega,fun hi=>by omega⟩
 |succ n ih=>
  obtain⟨J,h1,h2,h3⟩:=ih (fun i hi=>h i (by omega));by_cases hJ:J <n
  ·exact⟨J,by omega,h2,fun _=>h3 hJ⟩
  ·obtain rfl:J=n:=by omega
   rcases h J (by omega)with hg|hb
   ·exact⟨J+1,Nat.le_refl _,fun i hi=>by
     by_cases e:i=J
     ·subst e;exact hg
     ·exact h2 i (by omega),fun hi=>by omega⟩
   ·exact⟨J,by omega,h2,fun _=>hb⟩
def dz(c n:Int):Prop:=(c=0∧n=0)∨(2≤c∧c≤127∧0≤n∧n≤39)
instance (c n:Int):Decidable (dz c n):=by unfold dz;exact inferInstance
def dk(c n:Int):Bool:=decide (dz c n)
theorem yr{c n:Int}(h:dz c n):dk c n=true:=by simp [dk,h]
theorem nd{c n:Int}(h:¬dz c n):dk c n=false:=by simp [dk,h]
theorem sm(c n:Int)(w:World):Calls Tryz.prog 53 #[.agg #[.int .i64 c,.int .i64 n]] w fun e w'=>e= .returned (.bool (dk c n))∧w.alloc (.cells #[.int .i64 c,.int .i64 n] 89)=w':=by
 by_cases h1:0≤c
 ·by_cases h2:c <128
  ·by_cases h3:0≤n
   ·by_cases h4:n <40
    ·by_cases h5:c=0
     ·by_cases h6:n=0
      ·have F:=yr (c:=c) (n:=n) (by unfold dz;omega);subst h5;subst h6;go_enter Tryz.func53,Tryz.ntmps53;go_wp2;go_ret;exact⟨by first|exact kw F.symm|rfl,rfl⟩
      ·have F:=nd (c:=c) (n:=n) (by unfold dz;omega);have h0:(n==0)=false:=bF h6;subst h5;go_enter Tryz.func53,Tryz.ntmps53;go_wp2;go_ret;exact⟨by first|exact kw F.symm|rfl,rfl⟩
     ·have h7:(c !=0)=true:=bN h5;by_cases h6:c=1
      ·have F:=nd (c:=c) (n:=n) (by unfold dz;omega);subst h6;go_enter Tryz.func53,Tryz.ntmps53;go_wp2;go_ret;exact⟨by first|exact kw F.symm|rfl,rfl⟩
      ·have F:=yr (c:=c) (n:=n) (by unfold dz;omega);have h0:(c !=1)=true:=bN h6;go_enter Tryz.func53,Tryz.ntmps53;go_wp2;go_ret;exact⟨by first|exact kw F.symm|rfl,rfl⟩
    ·have F:=nd (c:=c) (n:=n) (by unfold dz;omega);have h9:decide (n <40)=false:=by simpa using h4
     go_enter Tryz.func53,Tryz.ntmps53;go_wp2;go_ret;exact⟨by first|exact kw F.symm|rfl,rfl⟩
   ·have F:=nd (c:=c) (n:=n) (by unfold dz;omega);have hc:decide (0≤n)=false:=by simpa using h3
    go_enter Tryz.func53,Tryz.ntmps53;go_wp2;go_ret;exact⟨by first|exact kw F.symm|rfl,rfl⟩
  ·have F:=nd (c:=c) (n:=n) (by unfold dz;omega);have ha:decide (c <128)=false:=by simpa using h2
   go_enter Tryz.func53,Tryz.ntmps53;go_wp2;go_ret;exact⟨by first|exact kw F.symm|rfl,rfl⟩
 ·have F:=nd (c:=c) (n:=n) (by unfold dz;omega);have h8:decide (0≤c)=false:=by simpa using h1
  go_enter Tryz.func53,Tryz.ntmps53;go_wp2;go_ret;exact⟨by first|exact kw F.symm|rfl,rfl⟩
theorem uu(c n:Int)(w:World):Calls Tryz.prog 147 #[.agg #[.int .i64 c,.int .i64 n]] w fun e w'=>e= .returned (.bool (dk c n))∧w.alloc (.cells #[.int .i64 c,.int .i64 n] 89)=w':=by
 by_cases h0:c=0∧n=0
 ·obtain⟨rfl,rfl⟩:=h0;have F:=yr (c:=0) (n:=0) (by unfold dz;omega);go_enter Tryz.func147,Tryz.ntmps147;go_wp2;go_ret;exact⟨by first|exact kw F.symm|rfl,rfl⟩
 ·by_cases h5:c=0
  ·subst h5;have h6:n≠0:=fun h=>h0 ⟨rfl,h⟩
   have F:=nd (c:=0) (n:=n) (by unfold dz;omega);have h7:(n==0)=false:=bF h6;go_enter Tryz.func147,Tryz.ntmps147;go_wp2;go_ret;exact⟨by first|exact kw F.symm|rfl,rfl⟩
  ·by_cases h1:2≤c
   ·by_cases h2:c≤127
    ·by_cases h3:0≤n
     ·by_cases h4:n≤39
      ·have F:=yr (c:=c) (n:=n) (by unfold dz;omega);go_enter Tryz.func147,Tryz.ntmps147;go_wp2;go_ret;exact⟨by first|exact kw F.symm|rfl,rfl⟩
      ·have F:=nd (c:=c) (n:=n) (by unfold dz;omega);have h9:decide (n≤39)=false:=by simpa using h4
       go_enter Tryz.func147,Tryz.ntmps147;go_wp2;go_ret;exact⟨by first|exact kw F.symm|rfl,rfl⟩
     ·have F:=nd (c:=c) (n:=n) (by unfold dz;omega);have hc:decide (0≤n)=false:=by simpa using h3
      go_enter Tryz.func147,Tryz.ntmps147;go_wp2;go_ret;exact⟨by first|exact kw F.symm|rfl,rfl⟩
    ·have F:=nd (c:=c) (n:=n) (by unfold dz;omega);have ha:decide (c≤127)=false:=by simpa using h2
     go_enter Tryz.func147,Tryz.ntmps147;go_wp2;go_ret;exact⟨by first|exact kw F.symm|rfl,rfl⟩
   ·have F:=nd (c:=c) (n:=n) (by unfold dz;omega);have h8:decide (2≤c)=false:=by simpa using h1
    go_enter Tryz.func147,Tryz.ntmps147;go_wp2;go_ret;exact⟨by first|exact kw F.symm|rfl,rfl⟩
def Ey(xs:List aa)(gs:List Int)(i:Nat):Prop:=∃p g,xs[i]?=some p∧gs[i]?=some g∧dk p.Cell p.Nth=true∧0≤g∧g≤2147483647
def Lr(xs:List aa)(gs:List Int)(i:Nat):Prop:=∃p g,xs[i]?=some p∧gs[i]?=some g∧(dk p.Cell p.Nth=false∨(dk p.Cell p.Nth=true∧g <0)∨(dk p.Cell p.Nth=true∧0≤g∧2147483647 <g))
def jw(xs:List aa)(gs:List Int):Prop:=xs.length=48∧gs.length=48∧∀i,i <48→Ey xs gs i
open Classical in
noncomputable def bu(xs:List aa)(gs:List Int):Int:=if jw xs gs then 0 else 4
theorem td{xs:List aa}{gs:List Int}(h:jw xs gs):bu xs gs=0:=if_pos h
theorem mm{xs:List aa}{gs:List Int}(h:¬jw xs gs):bu xs gs=4:=if_neg h
theorem q0a(xs:List aa)(gs:List Int)(h1:xs.length=48)(h2:gs.length=48)(i:Nat)(hi:i <48):Ey xs gs i∨Lr xs gs i:=by
 have e1:=gE (l:=xs) (i:=i) (by omega);have e2:=gE (l:=gs) (i:=i) (by omega);generalize xs[i]=p at e1;generalize gs[i]=g at e2;cases hr:dk p.Cell p.Nth
 ·exact .inr ⟨p,g,e1,e2,.inl hr⟩
 ·by_cases h3:g <0
  ·exact .inr ⟨p,g,e1,e2,.inr (.inl ⟨hr,h3⟩)⟩
  ·by_cases h4:2147483647 <g
   ·exact .inr ⟨p,g,e1,e2,.inr (.inr ⟨hr,by omega,h4⟩)⟩
   ·exact .inl ⟨p,g,e1,e2,hr,by omega,by omega⟩
theorem w0d{xs:List aa}{gs:List Int}{i:Nat}(h:Lr xs gs i):¬Ey xs gs i:=by
 rintro⟨p,g,e1,e2,h1,h2,h3⟩;obtain⟨p',g',h4,h0,h⟩:=h;rw [e1]at h4;rw [e2]at h0;injection h4 with h4;injection h0 with h0;subst h4;subst h0;rcases h with h|⟨_,h⟩|⟨_,_,h⟩
 ·rw [h1]at h;cases h
 ·omega
 ·omega
theorem Ug(xs:List aa)(gs:List Int)(h1:xs.length=48)(h2:gs.length=48):∃J,J≤48∧(∀i,i <J→Ey xs gs i)∧(J <48→Lr xs gs J)∧(J=48→bu xs gs=0)∧(J <48→bu xs gs=4):=by obtain⟨J,a,b,c⟩:=Vf 48 (q0a xs gs h1 h2);exact⟨J,a,b,c,fun e=>td ⟨h1,h2,by rw [e]at b;exact b⟩,fun hJ=>mm fun h=>w0d (c hJ) (h.2.2 J hJ)⟩
end
end Go.Proofs.YtcldpfhpkbeaiadGreat
