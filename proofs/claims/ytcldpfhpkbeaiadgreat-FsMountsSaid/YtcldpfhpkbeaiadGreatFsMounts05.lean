/- A part of the proof of FsMounts. No condition of ours. -/
import Derived.Test.YtcldpfhpkbeaiadGreatFsMounts04
import Derived.Deep.RegionWith
import Derived.Deep.RegionLaw
import Derived.Laws.Rows
import Derived.Laws.ResultCell
import Derived.Laws.CopyOwn
set_option maxRecDepth 20000
set_option maxHeartbeats 1000000
namespace Go.Proofs.YtcldpfhpkbeaiadGreat
section
open Go.RowKit Go.PlainAid
theorem mg{a b a' b' d d':Int}{c c':ByteArray}(h:a=a')(h2:b=b')(h3:c=c')(h4:d=d'):Ending.returned (.tuple #[.int .i64 a,.int .i64 b,.string c,.int .i64 d])= .returned (.tuple #[.int .i64 a',.int .i64 b',.string c',.int .i64 d']):=by rw [h,h2,h3,h4]
theorem mh{fn:Func}{p q r u:Tmp}(h:fn.results= #[.tmp p,.tmp q,.tmp r,.tmp u])(tmps:Array Value)(P:Program)(w:World):(results fn tmps).run P w= .ok (.tuple #[tmps.getD p undef,tmps.getD q undef,tmps.getD r undef,tmps.getD u undef]) w:=by simp only [results,h];simp
theorem sw{w W:World}{N:Nat}(h:N≤W.heap.size∧Below w.heap.size w W):N≤W.drew.heap.size∧Below w.heap.size w W.drew:=⟨h.1,h.2.drew⟩
theorem sx{w W W':World}{N:Nat}(h:N≤W.heap.size∧Below w.heap.size w W)(hb:Below W.heap.size W W'):N≤W'.heap.size∧Below w.heap.size w W':=⟨Nat.le_trans h.1 hb.size,h.2.trans (hb.mono h.2.size)⟩
theorem Rt(s:ByteArray)(m:Nat)(hm:s.size=m+4)(h1:11≤s.size)(h2:s.size≤1011):(ch s=5∧((s.extract m s.size).toList==(strOfNums (gv (fj (s.extract 0 m)))).toList)=false∧((strOfNums (gv (fj (s.extract 0 m)))).toList==(s.extract m s.size).toList)=false)∨(mv s m∧((s.extract m s.size).toList==(strOfNums (gv (fj (s.extract 0 m)))).toList)=true∧((strOfNums (gv (fj (s.extract 0 m)))).toList==(s.extract m s.size).toList)=true):=by
 by_cases h:mv s m
 ·have h':s.extract m s.size=strOfNums (gv (fj (s.extract 0 m))):=by rw [hm];exact h
  exact .inr ⟨h,Ny h',Ny (Eq.symm h')⟩
 ·have h':s.extract m s.size≠strOfNums (gv (fj (s.extract 0 m))):=by rw [hm];exact h
  exact .inl ⟨j0u hm h1 h2 h,me h',me (fun e=>h' e.symm)⟩
theorem j0w(s:ByteArray)(w:World)(h:s.size <11∨1011 <s.size):Calls Tryz.prog 48 #[.string s] w fun e w'=>e= .returned (.tuple #[.int .i64 (dg s),.int .i64 (d9 s),.string (aq s),.int .i64 (ch s)])∧Below w.heap.size w w':=by
 rcases h with h|h
 ·have F:=h_ (show ch s=_∧dg s=0∧d9 s=0∧aq s=⟨#[]⟩from⟨Ca h,ou (by rw [Ca h];decide)⟩);go_enter Tryz.func48,Tryz.ntmps48;go_wp2;refine bodyPost_ret (mh rfl _ _ _) rfl ?_;exact⟨mg F.o.2.1.symm F.o.2.2.1.symm F.o.2.2.2.symm F.o.1.symm,br⟩
 ·have F:=h_ (show ch s=_∧dg s=0∧d9 s=0∧aq s=⟨#[]⟩from⟨Cb h,ou (by rw [Cb h];decide)⟩);have h2:11≤s.size:=by omega
  go_enter Tryz.func48,Tryz.ntmps48;go_wp2;refine bodyPost_ret (mh rfl _ _ _) rfl ?_;exact⟨mg F.o.2.1.symm F.o.2.2.1.symm F.o.2.2.2.symm F.o.1.symm,br⟩
theorem j0z(s:ByteArray)(w:World)(m:Nat)(hm:s.size=m+4)(h1:11≤s.size)(h2:s.size≤1011):Calls Tryz.prog 48 #[.string s] w fun e w'=>e= .returned (.tuple #[.int .i64 (dg s),.int .i64 (d9 s),.string (aq s),.int .i64 (ch s)])∧Below w.heap.size w w':=by
 have hr:=get_bt s;have hN:=N5 s (by omega);have hL:=N6 s (by omega);have wN:wrap64 (oN s)=oN s:=by have:=z7 s;unfold wrap64;omega
 have wL:wrap64 (oL s)=oL s:=by have:=Ce s;unfold wrap64;omega
 have wK:wrap64 (bt s 0)=bt s 0:=by have:=bt_nonneg s 0;have:=bt_le s 0;unfold wrap64;omega
 have vN:IntKind.i64.wrap (oN s)=oN s:=by have:=z7 s;rw [IntKind.wrap_i64];omega
 have vL:IntKind.i64.wrap (oL s)=oL s:=by have:=Ce s;rw [IntKind.wrap_i64];omega
 have vK:IntKind.i64.wrap (bt s 0)=bt s 0:=by have:=bt_nonneg s 0;have:=bt_le s 0;rw [IntKind.wrap_i64];omega
 have hf:Hid (IntKind.i64.wrap ((m:Int)-7)=(m:Int)-7):=by unfold Hid;rw [IntKind.wrap_i64];omega
 have WM:Hid (wrap64 ((s.size:Int)-4)=(m:Int)):=by unfold wrap64 Hid;omega
 have he:Hid (IntKind.i64.wrap ((s.size:Int)-4)=(m:Int)):=by unfold Hid;rw [IntKind.wrap_i64];omega
 have hj:(m:Int)≤(s.size:Int):=by omega
 have hg:m≤s.size:=by omega
 have ha:Hid (wrap64 ((m:Int)-7)=(m:Int)-7):=by unfold wrap64 Hid;omega
 have m7:(7:Int)≤(m:Int):=by omega
 have i1:(11:Int)≤(s.size:Int):=by omega
 have i2:(s.size:Int)≤1011:=by omega
 have i3:(0:Int) < (s.size:Int):=by omega
 have i4:0 <s.size:=by omega
 have i5:7≤m:=by omega
 have hz:(s.extract 7 m).size=m-7:=mn s 7 m (by omega);have h9:(s.extract 0 m).size=m:=by rw [mn s 0 m (by omega)];rfl
 have hp:=ye (s.extract 0 m);have e4:fj (s.extract 0 m)/16777216%256=fj (s.extract 0 m)/16777216:=by omega
 have CU:Hid (∀(t:ByteArray) (W:World),Calls Tryz.prog 49 #[.string t] W fun e w'=>e= .returned (.tuple #[.int .u64 (fh t),.int .i64 (kg t)])∧W=w'):=fun t W=>G1 t W
 have CS:Hid (∀W,Calls Tryz.prog 84 #[.string (s.extract 0 m)] W fun e w'=>e= .returned (.int .u32 (fj (s.extract 0 m)))∧Below W.heap.size W w'):=fun W=>Nv _ W (by rw [h9];omega)
 have CF:Hid (∀W,Calls Tryz.prog 85 #[.int .i64 (bt s 0),.int .i64 (oN s),.string (s.extract 7 m)] W fun e w'=>e= .returned (.int .i64 (dh (oK s) (oN s) (m-7)))∧W=w'):=fun W=>by have:=Ju (bt s 0) (oN s) (s.extract 7 m) W;rw [hz]at this;exact this
 have h7:=P2 (P:=Tryz.prog) (src:=159) Tryz.underlying159 Tryz.underlying5 Tryz.underlying9 (fj (s.extract 0 m)%256) (fj (s.extract 0 m)/256%256) (fj (s.extract 0 m)/65536%256) (fj (s.extract 0 m)/16777216);have h8:=Rt s m hm h1 h2;have h6:=h_ (fun(a:mv s m) (b:tr s m)=>Rp hm h1 h2 a b);have h5:=h_ (fun(a:mv s m) (b:¬tr s m)=>Rq hm h1 h2 a b);unfold gv at h8;rw [e4]at h8;clear e4 hz h9;have wm:=WM.o;have hq:=he.o;have hh:=hf.o;have hn:=ha.o;clear WM ha he hf hm;generalize fj (s.extract 0 m)=c at*;have q0:IntKind.u8.wrap c=c%256:=by rw [IntKind.wrap_u8]
 have q1:IntKind.u8.wrap (c/256)=c/256%256:=by rw [IntKind.wrap_u8]
 have q2:IntKind.u8.wrap (c/65536)=c/65536%256:=by rw [IntKind.wrap_u8]
 have q3:IntKind.u8.wrap (c/16777216)=c/16777216:=by rw [IntKind.wrap_u8];omega
 rcases h8 with⟨hE,hc,_⟩|⟨hO,hc,_⟩
 ·have F:=h_ (show ch s=_∧dg s=0∧d9 s=0∧aq s=⟨#[]⟩from⟨hE,ou (by rw [hE];decide)⟩);clear h6 h5 hE;go_enter Tryz.func48,Tryz.ntmps48
  go_wp2_with(first
   |(go_at_call 84;refine(CS.o _).mono ?_;rintro e w1 ⟨rfl,h0⟩))
  go_region_with (fail)
  all_goals
   clear h7;go_wp2;refine bodyPost_ret (mh rfl _ _ _) rfl ?_;exact⟨mg F.o.2.1.symm F.o.2.2.1.symm F.o.2.2.2.symm F.o.1.symm,(h0.alloc h0.size _).drew⟩
 ·by_cases hlen:oL s=(m:Int)-7
  ·by_cases hse:dh (oK s) (oN s) (m-7)=0
   ·have F:=h_ (h6.o hO ⟨hlen,hse⟩);rw [hse]at CF;have hd:(oL s !=(m:Int)-7)=false:=by rw [hlen];exact bne_self_eq_false _
    clear h6 h5 hO hse hlen;go_enter Tryz.func48,Tryz.ntmps48
    go_wp2_with(first
     |(go_at_call 84;refine(CS.o _).mono ?_;rintro e w1 ⟨rfl,h0⟩))
    go_region_with (fail);have h3:Below w.heap.size w ((w1.alloc (.cells #[.int .u8 (c%256),.int .u8 (c/256%256),.int .u8 (c/65536%256),.int .u8 (c/16777216)] 5)).drew):=(h0.alloc h0.size _).drew;clear h0 h7 q0 q1 q2 q3;generalize((w1.alloc (.cells #[.int .u8 (c%256),.int .u8 (c/256%256),.int .u8 (c/65536%256),.int .u8 (c/16777216)] 5)).drew)=w2 at h3⊢
    go_wp2_with(first
     |(go_at_call 49;refine(CU.o _ _).mono ?_;rintro e w' ⟨rfl,rfl⟩))
    clear CS CU hN hL;go_quiet((go_at_call 85;exact Calls.quiet_of_same ((CF.o _).mono fun _ _ h=>⟨h.1,h.2.symm⟩)));go_wp2;go_quiet(fail);go_wp2;refine bodyPost_ret (mh rfl _ _ _) rfl ?_;exact⟨mg F.o.2.1.symm F.o.2.2.1.symm F.o.2.2.2.symm F.o.1.symm,below_drewN (below_drewN h3 _) _⟩
   ·have h4:ch s=4:=h5.o hO (fun h=>hse h.2);have F:=h_ (show ch s=_∧dg s=0∧d9 s=0∧aq s=⟨#[]⟩from⟨h4,ou (by rw [h4];decide)⟩);have hk:(dh (oK s) (oN s) (m-7)!=0)=true:=bN hse;have hd:(oL s !=(m:Int)-7)=false:=by rw [hlen];exact bne_self_eq_false _
    generalize dh (oK s) (oN s) (m-7)=ee at*;clear h6 h5 hO hse hlen h4;go_enter Tryz.func48,Tryz.ntmps48
    go_wp2_with(first
     |(go_at_call 84;refine(CS.o _).mono ?_;rintro e w1 ⟨rfl,h0⟩))
    go_region_with (fail);have h3:Below w.heap.size w ((w1.alloc (.cells #[.int .u8 (c%256),.int .u8 (c/256%256),.int .u8 (c/65536%256),.int .u8 (c/16777216)] 5)).drew):=(h0.alloc h0.size _).drew;clear h0 h7 q0 q1 q2 q3;generalize((w1.alloc (.cells #[.int .u8 (c%256),.int .u8 (c/256%256),.int .u8 (c/65536%256),.int .u8 (c/16777216)] 5)).drew)=w2 at h3⊢
    go_wp2_with(first
     |(go_at_call 49;refine(CU.o _ _).mono ?_;rintro e w' ⟨rfl,rfl⟩))
    clear CS CU hN hL;go_quiet((go_at_call 85;exact Calls.quiet_of_same ((CF.o _).mono fun _ _ h=>⟨h.1,h.2.symm⟩)));go_wp2;refine bodyPost_ret (mh rfl _ _ _) rfl ?_;exact⟨mg F.o.2.1.symm F.o.2.2.1.symm F.o.2.2.2.symm F.o.1.symm,below_drewN h3 _⟩
  ·have h4:ch s=4:=h5.o hO (fun h=>hlen h.1);have F:=h_ (show ch s=_∧dg s=0∧d9 s=0∧aq s=⟨#[]⟩from⟨h4,ou (by rw [h4];decide)⟩);have hd:(oL s !=(m:Int)-7)=true:=bN hlen;clear h6 h5 hO hlen h4 CF;go_enter Tryz.func48,Tryz.ntmps48
   go_wp2_with(first
    |(go_at_call 84;refine(CS.o _).mono ?_;rintro e w1 ⟨rfl,h0⟩))
   go_region_with (fail);have h3:Below w.heap.size w ((w1.alloc (.cells #[.int .u8 (c%256),.int .u8 (c/256%256),.int .u8 (c/65536%256),.int .u8 (c/16777216)] 5)).drew):=(h0.alloc h0.size _).drew;clear h0 h7 q0 q1 q2 q3;generalize((w1.alloc (.cells #[.int .u8 (c%256),.int .u8 (c/256%256),.int .u8 (c/65536%256),.int .u8 (c/16777216)] 5)).drew)=w2 at h3⊢
   go_wp2_with(first
    |(go_at_call 49;refine(CU.o _ _).mono ?_;rintro e w' ⟨rfl,rfl⟩))
   clear CS CU hN hL;go_quiet(fail);go_wp2;refine bodyPost_ret (mh rfl _ _ _) rfl ?_;exact⟨mg F.o.2.1.symm F.o.2.2.1.symm F.o.2.2.2.symm F.o.1.symm,below_drewN h3 _⟩
theorem a0k(s:ByteArray)(w:World)(h:s.size <11∨1011 <s.size):Calls Tryz.prog 95 #[.string s] w fun e w'=>e= .returned (.tuple #[.int .i64 (dg s),.int .i64 (d9 s),.string (aq s),.int .i64 (ch s)])∧Below w.heap.size w w':=by
 rcases h with h|h
 ·have F:=h_ (show ch s=_∧dg s=0∧d9 s=0∧aq s=⟨#[]⟩from⟨Ca h,ou (by rw [Ca h];decide)⟩);go_enter Tryz.func95,Tryz.ntmps95;go_wp2;refine bodyPost_ret (mh rfl _ _ _) rfl ?_;exact⟨mg F.o.2.1.symm F.o.2.2.1.symm F.o.2.2.2.symm F.o.1.symm,br⟩
 ·have F:=h_ (show ch s=_∧dg s=0∧d9 s=0∧aq s=⟨#[]⟩from⟨Cb h,ou (by rw [Cb h];decide)⟩);have h2:11≤s.size:=by omega
  go_enter Tryz.func95,Tryz.ntmps95;go_wp2;refine bodyPost_ret (mh rfl _ _ _) rfl ?_;exact⟨mg F.o.2.1.symm F.o.2.2.1.symm F.o.2.2.2.symm F.o.1.symm,br⟩
theorem a0m(s:ByteArray)(w:World)(m:Nat)(hm:s.size=m+4)(h1:11≤s.size)(h2:s.size≤1011):Calls Tryz.prog 95 #[.string s] w fun e w'=>e= .returned (.tuple #[.int .i64 (dg s),.int .i64 (d9 s),.string (aq s),.int .i64 (ch s)])∧Below w.heap.size w w':=by
 have hr:=get_bt s;have hN:=N5 s (by omega);have hL:=N6 s (by omega);have wN:wrap64 (oN s)=oN s:=by have:=z7 s;unfold wrap64;omega
 have wL:wrap64 (oL s)=oL s:=by have:=Ce s;unfold wrap64;omega
 have wK:wrap64 (bt s 0)=bt s 0:=by have:=bt_nonneg s 0;have:=bt_le s 0;unfold wrap64;omega
 have vN:IntKind.i64.wrap (oN s)=oN s:=by have:=z7 s;rw [IntKind.wrap_i64];omega
 have vL:IntKind.i64.wrap (oL s)=oL s:=by have:=Ce s;rw [IntKind.wrap_i64];omega
 have vK:IntKind.i64.wrap (bt s 0)=bt s 0:=by have:=bt_nonneg s 0;have:=bt_le s 0;rw [IntKind.wrap_i64];omega
 have hd:Hid (IntKind.i64.wrap ((m:Int)-7)=(m:Int)-7):=by unfold Hid;rw [IntKind.wrap_i64];omega
 have WM:Hid (wrap64 ((s.size:Int)-4)=(m:Int)):=by unfold wrap64 Hid;omega
 have ha:Hid (IntKind.i64.wrap ((s.size:Int)-4)=(m:Int)):=by unfold Hid;rw [IntKind.wrap_i64];omega
 have hk:(m:Int)≤(s.size:Int):=by omega
 have hg:m≤s.size:=by omega
 have h9:Hid (wrap64 ((m:Int)-7)=(m:Int)-7):=by unfold wrap64 Hid;omega
 have m7:(7:Int)≤(m:Int):=by omega
 have i1:(11:Int)≤(s.size:Int):=by omega
 have i2:(s.size:Int)≤1011:=by omega
 have i3:(0:Int) < (s.size:Int):=by omega
 have i4:0 <s.size:=by omega
 have i5:7≤m:=by omega
 have hz:(s.extract 7 m).size=m-7:=mn s 7 m (by omega);have h8:(s.extract 0 m).size=m:=by rw [mn s 0 m (by omega)];rfl
 have hp:=ye (s.extract 0 m);have e4:fj (s.extract 0 m)/16777216%256=fj (s.extract 0 m)/16777216:=by omega
 have CU:Hid (∀(t:ByteArray) (W:World),Calls Tryz.prog 97 #[.string t] W fun e w'=>e= .returned (.tuple #[.int .u64 (fh t),.int .i64 (kg t)])∧W=w'):=fun t W=>G0 t W
 have CS:Hid (∀W,Calls Tryz.prog 118 #[.int .u32 0,.string (s.extract 0 m)] W fun e w'=>e= .returned (.int .u32 (fj (s.extract 0 m)))∧W=w'):=fun W=>by have:=Nu 0#32 (s.extract 0 m) W (by rw [h8];omega);rw [Fy]at this;exact this
 have CE:Hid (∀W,Calls Tryz.prog 119 #[.int .i64 (bt s 0),.int .i64 (oN s),.string (s.extract 7 m)] W fun e w'=>e= .returned (.tuple #[.string (strOfNums (ij (oK s) (oN s) (s.extract 7 m))),.int .i64 (dh (oK s) (oN s) (m-7))])∧Below W.heap.size W w'):=fun W=>by have:=d0n (bt s 0) (oN s) (s.extract 7 m) W;rw [hz]at this;exact this
 have hf:=Rt s m hm h1 h2;have h6:=h_ (fun(a:mv s m) (b:dh (oK s) (oN s) (m-7)=0)=>d0q hm (by omega) (by omega) a b);have h5:=h_ (fun(a:mv s m) (b:tr s m)=>Rp hm h1 h2 a b);have h3:=h_ (fun(a:mv s m) (b:¬tr s m)=>Rq hm h1 h2 a b);clear e4 hz h8;have hh:=ye (s.extract 0 m);have wm:=WM.o;have hq:=ha.o;have hj:=hd.o;have hn:=h9.o;clear WM h9 ha hd hm;generalize fj (s.extract 0 m)=c at*;have u4:IntKind.u64.wrap c=c:=by rw [IntKind.wrap_u64];omega
 have C4:Hid (∀W,Calls Tryz.prog 104 #[.int .u64 c,.int .i64 4] W fun e w'=>e= .returned (.string (strOfNums (cb 4 c)))∧Below W.heap.size W w'):=fun W=>by have:=ky c 4 W (by omega) (by omega) (by omega) (by omega);rwa [x8]at this
 have C5:Hid (∀W,Calls Tryz.prog 117 #[.string (strOfNums (cb 4 c))] W fun e w'=>e= .returned (.string (strOfNums (gv c)))∧W=w'):=fun W=>by have:=Yq (cb 4 c) W (by rw [l8];omega);rw [V9]at this;exact this
 generalize strOfNums (cb 4 c)=L4 at*;generalize strOfNums (gv c)=L5 at*;rcases hf with⟨hE,_,hc⟩|⟨hO,_,hc⟩
 ·have F:=h_ (show ch s=_∧dg s=0∧d9 s=0∧aq s=⟨#[]⟩from⟨hE,ou (by rw [hE];decide)⟩);clear h5 h3 hE h6 CE CU;go_enter Tryz.func95,Tryz.ntmps95;go_wp2;have HS:w.heap.size≤w.heap.size∧Below w.heap.size w w:=⟨Nat.le_refl _,br⟩
  go_region_held3 (fun W=>w.heap.size≤W.heap.size∧Below w.heap.size w W) (first|assumption|exact sw (by assumption)|exact sx (by assumption) (by assumption))
   (first
   |(go_at_call 118;refine(CS.o _).mono ?_;rintro e w' ⟨rfl,rfl⟩)
   |(go_at_call 104;refine(C4.o _).mono ?_;rintro e w' ⟨rfl,hb⟩)
   |(go_at_call 117;refine(C5.o _).mono ?_;rintro e w' ⟨rfl,rfl⟩))
  rename_i hHeld;have HS:=hHeld;clear hHeld;clear CS C4 C5;go_wp2;refine bodyPost_ret (mh rfl _ _ _) rfl ?_;exact⟨mg F.o.2.1.symm F.o.2.2.1.symm F.o.2.2.2.symm F.o.1.symm,HS.2⟩
 ·by_cases hse:dh (oK s) (oN s) (m-7)=0
  ·have h7:=h6.o hO hse;rw [hse]at CE;by_cases hlen:oL s=(m:Int)-7
   ·have F:=h_ (h5.o hO ⟨hlen,hse⟩);rw [h7.2 hlen]at CE;clear h5 h3 hO hse hlen h7 h6;go_enter Tryz.func95,Tryz.ntmps95;go_wp2;have HS:w.heap.size≤w.heap.size∧Below w.heap.size w w:=⟨Nat.le_refl _,br⟩
    go_region_held3 (fun W=>w.heap.size≤W.heap.size∧Below w.heap.size w W) (first|assumption|exact sw (by assumption)|exact sx (by assumption) (by assumption))
     (first
     |(go_at_call 118;refine(CS.o _).mono ?_;rintro e w' ⟨rfl,rfl⟩)
     |(go_at_call 104;refine(C4.o _).mono ?_;rintro e w' ⟨rfl,hb⟩)
     |(go_at_call 117;refine(C5.o _).mono ?_;rintro e w' ⟨rfl,rfl⟩))
    rename_i hHeld;have HS:=hHeld;clear hHeld
    go_wp2_with(first
     |(go_at_call 97;refine(CU.o _ _).mono ?_;rintro e w' ⟨rfl,rfl⟩))
    clear CS C4 C5 CU hN hL
    go_region_held3 (fun W=>w.heap.size≤W.heap.size∧Below w.heap.size w W) (first|assumption|exact sw (by assumption)|exact sx (by assumption) (by assumption))
     (first
     |(go_at_call 119;refine(CE.o _).mono ?_;rintro e w' ⟨rfl,hb⟩))
    rename_i hHeld;have h4:=hHeld.2;clear hHeld CE;go_wp2;go_quiet(fail);go_wp2;refine bodyPost_ret (mh rfl _ _ _) rfl ?_;exact⟨mg F.o.2.1.symm F.o.2.2.1.symm F.o.2.2.2.symm F.o.1.symm,below_drewN h4 _⟩
   ·have h0:ch s=4:=h3.o hO (fun h=>hlen h.1);have F:=h_ (show ch s=_∧dg s=0∧d9 s=0∧aq s=⟨#[]⟩from⟨h0,ou (by rw [h0];decide)⟩);have he:=me (fun e=>hlen (h7.1 e));generalize strOfNums (ij (oK s) (oN s) (s.extract 7 m))=TT at*;clear h5 h3 hO hse hlen h7 h6 h0;go_enter Tryz.func95,Tryz.ntmps95;go_wp2;have HS:w.heap.size≤w.heap.size∧Below w.heap.size w w:=⟨Nat.le_refl _,br⟩
    go_region_held3 (fun W=>w.heap.size≤W.heap.size∧Below w.heap.size w W) (first|assumption|exact sw (by assumption)|exact sx (by assumption) (by assumption))
     (first
     |(go_at_call 118;refine(CS.o _).mono ?_;rintro e w' ⟨rfl,rfl⟩)
     |(go_at_call 104;refine(C4.o _).mono ?_;rintro e w' ⟨rfl,hb⟩)
     |(go_at_call 117;refine(C5.o _).mono ?_;rintro e w' ⟨rfl,rfl⟩))
    rename_i hHeld;have HS:=hHeld;clear hHeld
    go_wp2_with(first
     |(go_at_call 97;refine(CU.o _ _).mono ?_;rintro e w' ⟨rfl,rfl⟩))
    clear CS C4 C5 CU hN hL
    go_region_held3 (fun W=>w.heap.size≤W.heap.size∧Below w.heap.size w W) (first|assumption|exact sw (by assumption)|exact sx (by assumption) (by assumption))
     (first
     |(go_at_call 119;refine(CE.o _).mono ?_;rintro e w' ⟨rfl,hb⟩))
    rename_i hHeld;have h4:=hHeld.2;clear hHeld CE;go_wp2;refine bodyPost_ret (mh rfl _ _ _) rfl ?_;exact⟨mg F.o.2.1.symm F.o.2.2.1.symm F.o.2.2.2.symm F.o.1.symm,h4⟩
  ·have h0:ch s=4:=h3.o hO (fun h=>hse h.2);have F:=h_ (show ch s=_∧dg s=0∧d9 s=0∧aq s=⟨#[]⟩from⟨h0,ou (by rw [h0];decide)⟩);have he:(dh (oK s) (oN s) (m-7)!=0)=true:=bN hse;clear h5 h3 hO h0 h6 hse;generalize dh (oK s) (oN s) (m-7)=ee at*;generalize strOfNums (ij (oK s) (oN s) (s.extract 7 m))=TT at*;go_enter Tryz.func95,Tryz.ntmps95;go_wp2;have HS:w.heap.size≤w.heap.size∧Below w.heap.size w w:=⟨Nat.le_refl _,br⟩
   go_region_held3 (fun W=>w.heap.size≤W.heap.size∧Below w.heap.size w W) (first|assumption|exact sw (by assumption)|exact sx (by assumption) (by assumption))
    (first
    |(go_at_call 118;refine(CS.o _).mono ?_;rintro e w' ⟨rfl,rfl⟩)
    |(go_at_call 104;refine(C4.o _).mono ?_;rintro e w' ⟨rfl,hb⟩)
    |(go_at_call 117;refine(C5.o _).mono ?_;rintro e w' ⟨rfl,rfl⟩))
   rename_i hHeld;have HS:=hHeld;clear hHeld
   go_wp2_with(first
    |(go_at_call 97;refine(CU.o _ _).mono ?_;rintro e w' ⟨rfl,rfl⟩))
   clear CS C4 C5 CU hN hL
   go_region_held3 (fun W=>w.heap.size≤W.heap.size∧Below w.heap.size w W) (first|assumption|exact sw (by assumption)|exact sx (by assumption) (by assumption))
    (first
    |(go_at_call 119;refine(CE.o _).mono ?_;rintro e w' ⟨rfl,hb⟩))
   rename_i hHeld;have h4:=hHeld.2;clear hHeld CE;go_wp2;refine bodyPost_ret (mh rfl _ _ _) rfl ?_;exact⟨mg F.o.2.1.symm F.o.2.2.1.symm F.o.2.2.2.symm F.o.1.symm,h4⟩
theorem Rr(s:ByteArray)(w:World):Calls Tryz.prog 48 #[.string s] w fun e w'=>e= .returned (.tuple #[.int .i64 (dg s),.int .i64 (d9 s),.string (aq s),.int .i64 (ch s)])∧Below w.heap.size w w':=by
 by_cases h:s.size <11∨1011 <s.size
 ·exact j0w s w h
 ·exact j0z s w (s.size-4) (by omega) (by omega) (by omega)
theorem Fz(s:ByteArray)(w:World):Calls Tryz.prog 95 #[.string s] w fun e w'=>e= .returned (.tuple #[.int .i64 (dg s),.int .i64 (d9 s),.string (aq s),.int .i64 (ch s)])∧Below w.heap.size w w':=by
 by_cases h:s.size <11∨1011 <s.size
 ·exact a0k s w h
 ·exact a0m s w (s.size-4) (by omega) (by omega) (by omega)
end
section
open Go.RowKit
theorem ww{α:Type}{enc:α→List Value}{k:Nat}(hk:∀x,(enc x).length=k):∀xs:List α,(xs.flatMap enc).length=xs.length*k
 | []=>by simp
 |x::r=>by rw [List.flatMap_cons,List.length_append,hk x,ww hk r,List.length_cons,Nat.add_mul,Nat.one_mul,Nat.add_comm]
theorem nw{α:Type}{enc:α→List Value}{k:Nat}(hk:∀x,(enc x).length=k):∀(xs:List α) (i:Nat) (x:α),xs[i]?=some x→∀(j:Nat) (u:Value),(enc x)[j]?=some u→(xs.flatMap enc)[i*k+j]?=some u
 | [],i,x,h,j,u,hu=>by simp at h
 |y::r,0,x,h,j,u,hu=>by
  obtain rfl:y=x:=by simpa using h
  have hj:j < (enc y).length:=(gS.1 hu).1;rw [List.flatMap_cons,Nat.zero_mul,Nat.zero_add,List.getElem?_append_left hj];exact hu
 |y::r,i+1,x,h,j,u,hu=>by
  have h':r[i]?=some x:=by simpa using h
  have h0:=hk y;rw [List.flatMap_cons,List.getElem?_append_right (by rw [hk y,Nat.add_mul,Nat.one_mul];omega),hk y];rw [show(i+1)*k+j-k=i*k+j by rw [Nat.add_mul,Nat.one_mul];omega];exact nw hk r i x h' j u hu
theorem af.rows{α:Type}{enc:α→List Value}{k:Nat}(hk:∀x,(enc x).length=k)(hk0:0 <k){w:World}{base n c:Nat}{A:Option Addr}{xs:List α}(h:af w base k (.slice A n c) n (xs.flatMap enc)):ab w w.heap.size A n c enc k xs:=by
 have hl:xs.length=n:=by have:=h.1;rw [ww hk]at this;exact Nat.eq_of_mul_eq_mul_right hk0 this
 rcases h.2 with⟨e,h0⟩|⟨g,off,cap,e,h1,h2,h3,h4,h5,h6⟩
 ·injection e with e1 e2 e3;subst e1;subst e2;subst e3;refine⟨hl,Nat.le_refl _,zl,fun i x hx=>?_⟩;have:xs=[]:=List.eq_nil_of_length_eq_zero hl;subst this;simp at hx
 ·injection e with e1 e2 e3;subst e1;subst e3;exact⟨hl,h3,h4,fun i x hx=>⟨g,off,rfl,h2,fun j u hu=>by rw [Nat.add_assoc];exact h5 _ u (nw hk xs i x hx j u hu)⟩⟩
section
variable {P:Program} {w:World} {ops:Array Oper} {o:Oper} {a:Act} {K:Act→World→Prop} {Q:Exit→Act→World→Prop} {E:Prop}
theorem oh(hgd:o.guard=none)(s x:Operand)(t:TypeId)(ho:o.op= .call {callee:=.builtin .append,args:= #[s,x],argTypes:= #[t,t]})
 {e:TypeId} {z:Value} {size bytes:Nat} (ht:P.underlying t=some (.slice e)) (hinfo:(P.info? e).map (fun i=>(i.zero,i.size,i.bytes))=some (some z,size,bytes)) (hzs:z.cells.size=size) (hsz:0 <size)
 {base:Nat} (A:Option Addr) (n c0:Nat) (xs:List Value) (hs:a.eval s= .slice A n c0) (hown:af w base size (.slice A n c0) n xs) (hbase:base≤w.heap.size)
 (B c:Nat) (news:Array Value) (e':TypeId) (hx:a.eval x= .slice (some ⟨B,0,none⟩) 1 c) (hB:w.heap[B]?=some (.cells news e')) (hl:news.size=size) (h1:∀u∈news.toList,u.oneCell'=true)
 (h63:n+1≤maxLen) (hbytes:(n+1)*bytes≤140737488355328)
 (h:∀A' c' w',af w' base size (.slice A' (n+1) c') (n+1) (xs++news.toList)→ed w w' base (Value.ownBlock (.slice A n c0))→(Value.ownBlock (.slice A' (n+1) c')=Value.ownBlock (.slice A n c0)∨∀k,Value.ownBlock (.slice A' (n+1) c')=some k→w.heap.size≤k)→K (a.put o.dst (.slice A' (n+1) c')) w'):
 if Region.wanted o (yielded ops a.tmps)=true then Oper.wp P o a w K Q else E:=by
 have hw:Region.wanted o (yielded ops a.tmps)=true:=by simp [Region.wanted,hgd]
 rw [if_pos hw]
 obtain⟨v',w',h0,h2,h3,h4⟩:=yq (P:=P) (ty:=o.type) ht hinfo hzs hsz hown hbase ⟨B,0,none⟩ 1 c news.toList (by simpa using hl) (fun j u hu=>by
 rw [ms,Nat.zero_add,cell_of_row w B j news e' _ hB]
 simpa using hu) h1 h63 hbytes
 unfold Oper.wp execOp
 simp only [ho,resolve,invoke,builtin,Sem.run_bind,Sem.run_pure,Result.andThen_ok,List.map_toArray,List.map_cons,List.map_nil,hs,hx,h0]
 obtain⟨A',c',rfl⟩:=h2.form
 exact h A' c' w' h2 h3 h4
end
theorem cv{P:Program}{fn:Func}{p u:Tmp}{ty:TypeId}(h:fn.results= #[.cell p ty,.tmp u])(tmps:Array Value)(w:World)(g:Nat)(t:TypeId)(cs:Array Value)(fr:Nat×Nat)(d:TypeDesc)(hp:tmps.getD p undef= .pointer (some ⟨g,0,none⟩))(hg:w.heap[g]?=some (.cells cs t fr))(hu:P.underlying ty=some d)(hd:(match d with| .struct _| .array _ _=>true|_=>false)=true)(hi:(P.info? ty).map (·.size)=some cs.size):(results fn tmps).run P w= .ok (.tuple #[.agg cs,tmps.getD u undef]) w:=by
 have h0:tmps[p]?.getD undef= .pointer (some ⟨g,0,none⟩):=by simpa using hp
 simp [results,h,h0,asAddr,run_loadVar_row w g t ty cs fr d hg hu hd hi]
section
variable {w w':World} {b:Nat} {t:TypeId}
theorem ag{x:Obj}(h:w.heap[b]?=some x):b <w.heap.size:=(Array.getElem?_eq_some_iff.1 h).1
theorem cq{x:Obj}(h:w.heap[b]?=some x)(o:Obj):(w.alloc o).heap[b]?=some x:=(heap_alloc_old _ _ (ag h)).trans h
theorem ah{B:Nat}{x:Obj}(h:w.heap[b]?=some x)(hB:b <B)(hb:Below B w w'):w'.heap[b]?=some x:=(hb.block _ hB).trans h
theorem dw{base:Nat}{row:Option Nat}{x:Obj}(h:w.heap[b]?=some x)(hl:ed w w' base row)(hne:row≠some b):w'.heap[b]?=some x:=(hl.grown.block _ (ag h) (fun e=>hne e.symm)).trans h
theorem cp{x:Obj}{a:Addr}{v:Value}(h:w.heap[b]?=some x)(hne:b≠a.block):(w.setCell a v).heap[b]?=some x:=(heap_setCell_other w a b v hne).trans h
theorem aj{cs:Array Value}{fr:Nat×Nat}(h:w.heap[b]?=some (.cells cs t fr))(j:Nat):w.cell? ⟨b,j,none⟩=cs[j]?:=cell_of_row w b j cs t fr h
theorem ak{cs:Array Value}(h:w.heap[b]?=some (.cells cs t (0,0)))(j:Nat):w.frozen? ⟨b,j,none⟩=false:=frozen_of_row w b j cs t h
theorem bh{cs cs':Array Value}{fr:Nat×Nat}(h:w.heap[b]?=some (.cells cs t fr)):(w.setRow b cs').heap[b]?=some (.cells cs' t fr):=setRow_heap w b cs cs' t fr h
theorem af.setRow{base size n:Nat}{v:Value}{xs:List Value}(h:af w base size v n xs)(hb:b <base)(cs:Array Value):af (w.setRow b cs) base size v n xs:=
 h.kept (fun g hg=>setRow_other w b g cs (by have:=(h.lt g hg).1;omega)) (by simp)
theorem b9{cs:Array Value}{j:Nat}{v:Value}(h:w.heap[b]?=some (.cells cs t (0,0))):(w.setCell ⟨b,j,none⟩ v).heap[b]?=some (.cells (cs.setIfInBounds j v) t (0,0)):=heap_setCell_same w b j cs t v h
theorem Tp{w1 w2:World}{v0 v1 v2 v3:Value}{t:TypeId}(hb:Below (w1.alloc (.cells #[v0,v1,v2,v3] t)).heap.size (w1.alloc (.cells #[v0,v1,v2,v3] t)) w2):w2.cell? ⟨w1.heap.size,0,none⟩=some v0∧w2.cell? ⟨w1.heap.size,1,none⟩=some v1∧w2.cell? ⟨w1.heap.size,2,none⟩=some v2∧w2.cell? ⟨w1.heap.size,3,none⟩=some v3∧w1.heap.size <w2.heap.size:=by
 have h:=A_ w1 (.cells #[v0,v1,v2,v3] t);have hz:w1.heap.size < (w1.alloc (.cells #[v0,v1,v2,v3] t)).heap.size:=by simp
 have h':=ah h hz hb;have:=hb.size;exact⟨aj h' 0,aj h' 1,aj h' 2,aj h' 3,by omega⟩
theorem Cy{w1 w2:World}{v0 v1:Value}{t:TypeId}(hb:Below (w1.alloc (.cells #[v0,v1] t)).heap.size (w1.alloc (.cells #[v0,v1] t)) w2):w2.cell? ⟨w1.heap.size,0,none⟩=some v0∧w2.cell? ⟨w1.heap.size,1,none⟩=some v1∧w1.heap.size <w2.heap.size:=by
 have h:=A_ w1 (.cells #[v0,v1] t);have hz:w1.heap.size < (w1.alloc (.cells #[v0,v1] t)).heap.size:=by simp
 have h':=ah h hz hb;have:=hb.size;exact⟨aj h' 0,aj h' 1,by omega⟩
theorem iv{α:Type}{enc:α→List Value}{k n c:Nat}{A:Option Addr}{xs:List α}{w1:World}(r:ab w1 w1.heap.size A n c enc k xs)(o':Obj):ab (w1.alloc o') (w1.alloc o').heap.size A n c enc k xs:=
 (r.alloc ler o').more (by simp)
end
end
section
open Go.RowKit Go.PlainAid
theorem xp(w:World)(v0 v1 v2 v3:Value)(t:TypeId):(w.alloc (.cells #[v0,v1,v2,v3] t)).cell? ⟨w.heap.size,0,none⟩=some v0∧(w.alloc (.cells #[v0,v1,v2,v3] t)).cell? ⟨w.heap.size,1,none⟩=some v1∧(w.alloc (.cells #[v0,v1,v2,v3] t)).cell? ⟨w.heap.size,2,none⟩=some v2∧(w.alloc (.cells #[v0,v1,v2,v3] t)).cell? ⟨w.heap.size,3,none⟩=some v3:=by refine⟨?_,?_,?_,?_⟩<;>(unfold World.cell?;rw [A_ w _];rfl)
theorem v0z(k i n:Int)(t:ByteArray)(w:World):Calls Tryz.prog 88 #[.agg #[.int .i64 k,.int .i64 i,.int .i64 n,.string t]] w fun e w'=>e= .returned (.int .i64 (ge k i n t))∧Below w.heap.size w w':=by
 have h3:k=1∨k=2∨k=3∨k <1∨3 <k:=by omega
 have h0:Below w.heap.size w (w.alloc (.cells #[.int .i64 k,.int .i64 i,.int .i64 n,.string t] 85)):=br.alloc ler _;rcases(show i <0∨(0≤i∧47 <i)∨(0≤i∧i≤47) by omega)with hi|⟨hi0,hi⟩|⟨hi0,hi⟩
 ·clear h3;have F:=h_ (ja (k:=k) (i:=i) (n:=n) (t:=t) (by rintro⟨q0,q1,q2⟩;omega));go_enter Tryz.func88,Tryz.ntmps88;go_wp2
  all_goals(go_ret;exact⟨ax F.o.symm,h0⟩)
 ·clear h3;have F:=h_ (ja (k:=k) (i:=i) (n:=n) (t:=t) (by rintro⟨q0,q1,q2⟩;omega));have h5:(48:Int)≤i:=by omega
  go_enter Tryz.func88,Tryz.ntmps88;go_wp2
  all_goals(go_ret;exact⟨ax F.o.symm,h0⟩)
 ·have h5:i < (48:Int):=by omega
  rcases h3 with rfl|rfl|rfl|hk|hk
  ·rcases(show n <0∨(0≤n∧7 <n)∨(0≤n∧n≤7) by omega)with hn|⟨hn0,hn⟩|⟨hn0,hn⟩
   ·skip;have F:=h_ (ja (k:=1) (i:=i) (n:=n) (t:=t) (by rintro⟨q0,q1,q2⟩;omega));go_enter Tryz.func88,Tryz.ntmps88;go_wp2
    all_goals(go_ret;exact⟨ax F.o.symm,h0⟩)
   ·skip;have F:=h_ (ja (k:=1) (i:=i) (n:=n) (t:=t) (by rintro⟨q0,q1,q2⟩;omega));have h1:(8:Int)≤n:=by omega
    go_enter Tryz.func88,Tryz.ntmps88;go_wp2
    all_goals(go_ret;exact⟨ax F.o.symm,h0⟩)
   ·have h1:n < (8:Int):=by omega
    by_cases hz:600 <t.size
    ·have F:=h_ (Ej (k:=1) (i:=i) (n:=n) (t:=t) ⟨hi0,hi,.inl ⟨rfl,hn0,hn⟩⟩ hz);have h2:(600:Int) < (t.size:Int):=by omega
     go_enter Tryz.func88,Tryz.ntmps88;go_wp2;go_ret;exact⟨ax F.o.symm,h0⟩
    ·have F:=h_ (xn (k:=1) (i:=i) (n:=n) (t:=t) ⟨hi0,hi,.inl ⟨rfl,hn0,hn⟩⟩ hz);have h2:(t.size:Int)≤600:=by omega
     go_enter Tryz.func88,Tryz.ntmps88;go_wp2;go_ret;exact⟨ax F.o.symm,h0⟩
  ·rcases(show n <0∨0 <n∨n=0 by omega)with hn|hn|rfl
   ·skip;have F:=h_ (ja (k:=2) (i:=i) (n:=n) (t:=t) (by rintro⟨q0,q1,q2⟩;omega));have h1:(n !=0)=true:=by rw [bne_iff_ne];omega
    go_enter Tryz.func88,Tryz.ntmps88;go_wp2
    all_goals(go_ret;exact⟨ax F.o.symm,h0⟩)
   ·skip;have F:=h_ (ja (k:=2) (i:=i) (n:=n) (t:=t) (by rintro⟨q0,q1,q2⟩;omega));have h1:(n !=0)=true:=by rw [bne_iff_ne];omega
    have h4:(0:Int)≤n:=by omega
    go_enter Tryz.func88,Tryz.ntmps88;go_wp2
    all_goals(go_ret;exact⟨ax F.o.symm,h0⟩)
   ·skip;by_cases hz:600 <t.size
    ·have F:=h_ (Ej (k:=2) (i:=i) (n:=0) (t:=t) ⟨hi0,hi,.inr (.inl ⟨rfl,rfl⟩)⟩ hz);have h2:(600:Int) < (t.size:Int):=by omega
     go_enter Tryz.func88,Tryz.ntmps88;go_wp2;go_ret;exact⟨ax F.o.symm,h0⟩
    ·have F:=h_ (xn (k:=2) (i:=i) (n:=0) (t:=t) ⟨hi0,hi,.inr (.inl ⟨rfl,rfl⟩)⟩ hz);have h2:(t.size:Int)≤600:=by omega
     go_enter Tryz.func88,Tryz.ntmps88;go_wp2;go_ret;exact⟨ax F.o.symm,h0⟩
  ·rcases(show n <0∨0 <n∨n=0 by omega)with hn|hn|rfl
   ·skip;have F:=h_ (ja (k:=3) (i:=i) (n:=n) (t:=t) (by rintro⟨q0,q1,q2⟩;omega));have h1:(n !=0)=true:=by rw [bne_iff_ne];omega
    go_enter Tryz.func88,Tryz.ntmps88;go_wp2
    all_goals(go_ret;exact⟨ax F.o.symm,h0⟩)
   ·skip;have F:=h_ (ja (k:=3) (i:=i) (n:=n) (t:=t) (by rintro⟨q0,q1,q2⟩;omega));have h1:(n !=0)=true:=by rw [bne_iff_ne];omega
    have h4:(0:Int)≤n:=by omega
    go_enter Tryz.func88,Tryz.ntmps88;go_wp2
    all_goals(go_ret;exact⟨ax F.o.symm,h0⟩)
   ·by_cases ht:t.size=0
    ·obtain rfl:=Dr ht;have F:=h_ (xn (k:=3) (i:=i) (n:=0) (t:=⟨#[]⟩) ⟨hi0,hi,.inr (.inr ⟨rfl,rfl,rfl⟩)⟩ (by decide));clear ht;go_enter Tryz.func88,Tryz.ntmps88;go_wp2;go_ret;exact⟨ax F.o.symm,h0⟩
    ·have t1:=Ds ht;have t2:=ls ht;have F:=h_ (ja (k:=3) (i:=i) (n:=0) (t:=t) (by rintro⟨q0,q1,q2⟩;omega));clear ht;go_enter Tryz.func88,Tryz.ntmps88;go_wp2
     all_goals(go_ret;exact⟨ax F.o.symm,h0⟩)
  ·have k1:(k==1)=false:=by rw [beq_eq_false_iff_ne];omega
   have k2:(k==2)=false:=by rw [beq_eq_false_iff_ne];omega
   have k3:(k==3)=false:=by rw [beq_eq_false_iff_ne];omega
   have F:=h_ (ja (k:=k) (i:=i) (n:=n) (t:=t) (by rintro⟨q0,q1,q2⟩;omega));go_enter Tryz.func88,Tryz.ntmps88;go_wp2
   all_goals(go_ret;exact⟨ax F.o.symm,h0⟩)
  ·have k1:(k==1)=false:=by rw [beq_eq_false_iff_ne];omega
   have k2:(k==2)=false:=by rw [beq_eq_false_iff_ne];omega
   have k3:(k==3)=false:=by rw [beq_eq_false_iff_ne];omega
   have k4:(1:Int)≤k:=by omega
   have F:=h_ (ja (k:=k) (i:=i) (n:=n) (t:=t) (by rintro⟨q0,q1,q2⟩;omega));go_enter Tryz.func88,Tryz.ntmps88;go_wp2
   all_goals(go_ret;exact⟨ax F.o.symm,h0⟩)
theorem Yd(k i n:Int)(t:ByteArray)(w:World):Calls Tryz.prog 148 #[.agg #[.int .i64 k,.int .i64 i,.int .i64 n,.string t]] w fun e w'=>e= .returned (.int .i64 (ge k i n t))∧Below w.heap.size w w':=by
 have h3:k=1∨k=2∨k=3∨k <1∨3 <k:=by omega
 have h0:Below w.heap.size w (w.alloc (.cells #[.int .i64 k,.int .i64 i,.int .i64 n,.string t] 85)):=br.alloc ler _;rcases(show i <0∨(0≤i∧47 <i)∨(0≤i∧i≤47) by omega)with hi|⟨hi0,hi⟩|⟨hi0,hi⟩
 ·clear h3;have F:=h_ (ja (k:=k) (i:=i) (n:=n) (t:=t) (by rintro⟨q0,q1,q2⟩;omega));go_enter Tryz.func148,Tryz.ntmps148;go_wp2
  all_goals(go_ret;exact⟨ax F.o.symm,h0⟩)
 ·clear h3;have F:=h_ (ja (k:=k) (i:=i) (n:=n) (t:=t) (by rintro⟨q0,q1,q2⟩;omega));have h5:(48:Int)≤i:=by omega
  go_enter Tryz.func148,Tryz.ntmps148;go_wp2
  all_goals(go_ret;exact⟨ax F.o.symm,h0⟩)
 ·have h5:i < (48:Int):=by omega
  rcases h3 with rfl|rfl|rfl|hk|hk
  ·rcases(show n <0∨(0≤n∧7 <n)∨(0≤n∧n≤7) by omega)with hn|⟨hn0,hn⟩|⟨hn0,hn⟩
   ·skip;have F:=h_ (ja (k:=1) (i:=i) (n:=n) (t:=t) (by rintro⟨q0,q1,q2⟩;omega));go_enter Tryz.func148,Tryz.ntmps148;go_wp2
    all_goals(go_ret;exact⟨ax F.o.symm,h0⟩)
   ·skip;have F:=h_ (ja (k:=1) (i:=i) (n:=n) (t:=t) (by rintro⟨q0,q1,q2⟩;omega));have h1:(8:Int)≤n:=by omega
    go_enter Tryz.func148,Tryz.ntmps148;go_wp2
    all_goals(go_ret;exact⟨ax F.o.symm,h0⟩)
   ·have h1:n < (8:Int):=by omega
    by_cases hz:600 <t.size
    ·have F:=h_ (Ej (k:=1) (i:=i) (n:=n) (t:=t) ⟨hi0,hi,.inl ⟨rfl,hn0,hn⟩⟩ hz);have h2:(600:Int) < (t.size:Int):=by omega
     go_enter Tryz.func148,Tryz.ntmps148;go_wp2;go_ret;exact⟨ax F.o.symm,h0⟩
    ·have F:=h_ (xn (k:=1) (i:=i) (n:=n) (t:=t) ⟨hi0,hi,.inl ⟨rfl,hn0,hn⟩⟩ hz);have h2:(t.size:Int)≤600:=by omega
     go_enter Tryz.func148,Tryz.ntmps148;go_wp2;go_ret;exact⟨ax F.o.symm,h0⟩
  ·rcases(show n <0∨0 <n∨n=0 by omega)with hn|hn|rfl
   ·skip;have F:=h_ (ja (k:=2) (i:=i) (n:=n) (t:=t) (by rintro⟨q0,q1,q2⟩;omega));have h1:(n !=0)=true:=by rw [bne_iff_ne];omega
    go_enter Tryz.func148,Tryz.ntmps148;go_wp2
    all_goals(go_ret;exact⟨ax F.o.symm,h0⟩)
   ·skip;have F:=h_ (ja (k:=2) (i:=i) (n:=n) (t:=t) (by rintro⟨q0,q1,q2⟩;omega));have h1:(n !=0)=true:=by rw [bne_iff_ne];omega
    have h4:(0:Int)≤n:=by omega
    go_enter Tryz.func148,Tryz.ntmps148;go_wp2
    all_goals(go_ret;exact⟨ax F.o.symm,h0⟩)
   ·skip;by_cases hz:600 <t.size
    ·have F:=h_ (Ej (k:=2) (i:=i) (n:=0) (t:=t) ⟨hi0,hi,.inr (.inl ⟨rfl,rfl⟩)⟩ hz);have h2:(600:Int) < (t.size:Int):=by omega
     go_enter Tryz.func148,Tryz.ntmps148;go_wp2;go_ret;exact⟨ax F.o.symm,h0⟩
    ·have F:=h_ (xn (k:=2) (i:=i) (n:=0) (t:=t) ⟨hi0,hi,.inr (.inl ⟨rfl,rfl⟩)⟩ hz);have h2:(t.size:Int)≤600:=by omega
     go_enter Tryz.func148,Tryz.ntmps148;go_wp2;go_ret;exact⟨ax F.o.symm,h0⟩
  ·rcases(show n <0∨0 <n∨n=0 by omega)with hn|hn|rfl
   ·skip;have F:=h_ (ja (k:=3) (i:=i) (n:=n) (t:=t) (by rintro⟨q0,q1,q2⟩;omega));have h1:(n !=0)=true:=by rw [bne_iff_ne];omega
    go_enter Tryz.func148,Tryz.ntmps148;go_wp2
    all_goals(go_ret;exact⟨ax F.o.symm,h0⟩)
   ·skip;have F:=h_ (ja (k:=3) (i:=i) (n:=n) (t:=t) (by rintro⟨q0,q1,q2⟩;omega));have h1:(n !=0)=true:=by rw [bne_iff_ne];omega
    have h4:(0:Int)≤n:=by omega
    go_enter Tryz.func148,Tryz.ntmps148;go_wp2
    all_goals(go_ret;exact⟨ax F.o.symm,h0⟩)
   ·by_cases ht:t.size=0
    ·obtain rfl:=Dr ht;have F:=h_ (xn (k:=3) (i:=i) (n:=0) (t:=⟨#[]⟩) ⟨hi0,hi,.inr (.inr ⟨rfl,rfl,rfl⟩)⟩ (by decide));clear ht;go_enter Tryz.func148,Tryz.ntmps148;go_wp2;go_ret;exact⟨ax F.o.symm,h0⟩
    ·have t1:=Ds ht;have t2:=ls ht;have F:=h_ (ja (k:=3) (i:=i) (n:=0) (t:=t) (by rintro⟨q0,q1,q2⟩;omega));clear ht;go_enter Tryz.func148,Tryz.ntmps148;go_wp2
     all_goals(go_ret;exact⟨ax F.o.symm,h0⟩)
  ·have k1:(k==1)=false:=by rw [beq_eq_false_iff_ne];omega
   have k2:(k==2)=false:=by rw [beq_eq_false_iff_ne];omega
   have k3:(k==3)=false:=by rw [beq_eq_false_iff_ne];omega
   have F:=h_ (ja (k:=k) (i:=i) (n:=n) (t:=t) (by rintro⟨q0,q1,q2⟩;omega));go_enter Tryz.func148,Tryz.ntmps148;go_wp2
   all_goals(go_ret;exact⟨ax F.o.symm,h0⟩)
  ·have k1:(k==1)=false:=by rw [beq_eq_false_iff_ne];omega
   have k2:(k==2)=false:=by rw [beq_eq_false_iff_ne];omega
   have k3:(k==3)=false:=by rw [beq_eq_false_iff_ne];omega
   have k4:(1:Int)≤k:=by omega
   have F:=h_ (ja (k:=k) (i:=i) (n:=n) (t:=t) (by rintro⟨q0,q1,q2⟩;omega));go_enter Tryz.func148,Tryz.ntmps148;go_wp2
   all_goals(go_ret;exact⟨ax F.o.symm,h0⟩)
end
end Go.Proofs.YtcldpfhpkbeaiadGreat
