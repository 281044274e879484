/- A part of the proof of FsMounts. No condition of ours. -/
import Derived.Test.YtcldpfhpkbeaiadGreatFsMounts19
import Derived.Test.YtcldpfhpkbeaiadGreatFsMounts13
import Derived.Shelf.Strings.Builder1
import Derived.Shelf.Strings.Builder2
import Derived.Shelf.Small.Utf8
import Derived.Shelf.Small.Strs
import Derived.Shelf.Strings.BuilderF
import Derived.Shelf.Strings.BuilderK
import Derived.Shelf.Strings.Builder2Cap
import Derived.Shelf.Strings.Search1
import Derived.Shelf.Strings.Prefix
import Derived.Shelf.Strings.Runes
import Derived.Shelf.Strings.IndexAny
import Derived.Shelf.Strings.AsciiSet
import Derived.Shelf.Strings.IndexAnyAll
import Derived.Shelf.Bits.Mul64
import Derived.Shelf.Strings.Repeat
import Derived.Shelf.Strings.BuilderCap
import Derived.Test.YtcldpfhpkbeaiadGreatProg
set_option maxRecDepth 20000
set_option maxHeartbeats 2000000
namespace Go.Proofs.YtcldpfhpkbeaiadGreat
open Go.RowKit Go.PlainAid
theorem D8:(Tryz.prog.info? 194).map (fun i=>(i.zero,i.size,i.bytes))=some (some (.agg #[.int .i64 0,.int .i64 0,.int .u8 0]),3,24):=by kernel_rfl
theorem Bd{n:Int}(h: -9223372036854775808≤n∧n≤9223372036854775807):(Lit.int .i64 n).wf=true:=by simpa [Lit.wf,IntKind.min,IntKind.max,IntKind.signed,IntKind.bits]using h
theorem Mr{n:Int}(h:0≤n∧n≤255):(Lit.int .u8 n).wf=true:=by simpa [Lit.wf,IntKind.min,IntKind.max,IntKind.signed,IntKind.bits]using h
structure MkJ(la lb:List Int)(s:ByteArray)(m k a:Nat)(L:List bc):Prop where
 eq:mkR la lb s m 0 []=mkR la lb s (m-k) a L
 le:a≤8*s.size
 len:L.length=k
 ok:∀z∈L,bc.ok z
theorem MkJ.start(la lb:List Int)(s:ByteArray)(m:Nat):MkJ la lb s m 0 0 []:=⟨rfl,zl,rfl,fun z hz=>by simp at hz⟩
theorem zg{m k:Nat}(h:k <m):m-k=(m- (k+1))+1:=by omega
theorem MkJ.bad{la lb:List Int}{s:ByteArray}{m k a:Nat}{L:List bc}{z:Int}(h:MkJ la lb s m k a L)(hk:k <m)(h1:one la s a=(0,0,z))(hz:z≠0):mkR la lb s m 0 []=none:=by rw [h.eq,zg hk,m0s h1 hz]
theorem MkJ.bad2{la lb:List Int}{s:ByteArray}{m k a x a1:Nat}{L:List bc}{z:Int}(h:MkJ la lb s m k a L)(hk:k <m)(h1:one la s a=((x:Int),(a1:Int),0))(hx:¬x <256)(h2:one lb s a1=(0,0,z))(hz:z≠0):mkR la lb s m 0 []=none:=by rw [h.eq,zg hk,m0r h1 hx h2 hz]
theorem MkJ.far{la lb:List Int}{s:ByteArray}{m k a x a1 y a2:Nat}{L:List bc}(h:MkJ la lb s m k a L)(hk:k <m)(h1:one la s a=((x:Int),(a1:Int),0))(hx:¬x <256)(h2:one lb s a1=((y:Int),(a2:Int),0))(hf:8*s.size <a2+y):mkR la lb s m 0 []=none:=by rw [h.eq,zg hk,m0n h1 hx h2 hf]
theorem MkJ.byte{la lb:List Int}{s:ByteArray}{m k a x a1:Nat}{L:List bc}(h:MkJ la lb s m k a L)(hk:k <m)(h1:one la s a=((x:Int),(a1:Int),0))(hx:x <256)(ha:a1≤8*s.size):MkJ la lb s m (k+1) a1 (L++[⟨0,0,x⟩]):=
 ⟨by rw [h.eq,zg hk,m0q h1 hx],ha,by rw [List.length_append,h.len];rfl,fun z hz=>by
   rcases List.mem_append.1 hz with h2|h2
   ·exact h.ok z h2
   ·simp at h2;subst h2;exact⟨Bd (by simp only;omega),Bd (by simp only;omega),Mr (by simp only;omega)⟩⟩
theorem MkJ.copy{la lb:List Int}{s:ByteArray}{m k a x a1 y a2:Nat}{L:List bc}(h:MkJ la lb s m k a L)(hk:k <m)(h1:one la s a=((x:Int),(a1:Int),0))(hx:¬x <256)(hx2:x <320)(h2:one lb s a1=((y:Int),(a2:Int),0))(hf:¬8*s.size <a2+y)(hv:0≤tn s a2 y∧(2:Int)^y+tn s a2 y≤1000)(hp:(0:Int)≤2^y):MkJ la lb s m (k+1) (a2+y) (L++[⟨(x:Int)-253,2^y+tn s a2 y,0⟩]):=
 ⟨by rw [h.eq,zg hk,m0p h1 hx h2 hf],by omega,by rw [List.length_append,h.len];rfl,fun z hz=>by
   rcases List.mem_append.1 hz with h2|h2
   ·exact h.ok z h2
   ·simp at h2;subst h2;exact⟨Bd (by simp only;omega),Bd (by simp only;omega),Mr (by simp only;omega)⟩⟩
theorem v0e{w1:World}{B:Nat}{x:Obj}(h:w1.heap[B]?=some x):some w1.heap.size≠some B:=fun e=>by have:=ag h;injection e with e;omega
theorem jm{B q:Nat}{a w w':World}(h:w'=w.drewN q)(hb:Below B a w):Below B a w':=h▸below_drewN hb q
theorem ks{base size n q:Nat}{v:Value}{xs:List Value}{w w':World}(h:w'=w.drewN q)(ho:af w base size v n xs):af w' base size v n xs:=h▸ho.drewN q
theorem L8{w4 w7 w8 w9:World}{N ba:Nat}(hb:Below N w4 w7)(hN:N≤w7.heap.size)(hb8:Below w7.heap.size w7 w8)(hba:w7.heap.size≤ba)(g9:w8.grownBy w9 (some ba)):Below N w4 w9:=by refine(hb.trans (hb8.mono hN)).trans ⟨g9.os,g9.tape,g9.output,g9.size,fun k hk=>g9.block k (Nat.lt_of_lt_of_le hk (Nat.le_trans hN hb8.size)) (fun e=>by injection e with e;omega)⟩
theorem I6{w7 w8 w9:World}{base size n ba:Nat}{v:Value}{xs:List Value}(ho:af w7 base size v n xs)(hb8:Below w7.heap.size w7 w8)(hba:w7.heap.size≤ba)(g9:w8.grownBy w9 (some ba)):af w9 base size v n xs:=
 (ho.fresh_below hb8).kept (fun g hg=>g9.block g (Nat.lt_of_lt_of_le (ho.lt g hg).2 hb8.size) (fun e=>by injection e with e;have:=(ho.lt g hg).2;omega)) g9.size
theorem Oa{w4 w9:World}{N:Nat}{o:Obj}(hb:Below N w4 w9)(hN:N≤w4.heap.size):N≤(w9.alloc o).heap.size:=by have:=hb.size;simp;omega
theorem Cp{L:List bc}{m:bc}:L.flatMap bc.cells++(#[.int .i64 m.Len,.int .i64 m.Dist,.int .u8 m.Byte]:Array Value).toList=(L++[m]).flatMap bc.cells:=by rw [List.flatMap_append];simp [bc.cells]
theorem g0b(s s2 s3:ByteArray)(B m:Nat)(W:World)(row:W.heap[B]?=some (.cells #[.string s,.bool false] 151 (0,0)))(hs:s.size≤1048575)(h:fm s 320)(e2:s2=aw s (ct s).toNat)(hs2:s2.size≤1048575)(h2:fm s2 9)(e3:s3=aw s2 (ct s2).toNat)(hs3:s3.size≤1048575)(hm:m≤512):Calls Tryz.prog 78 #[.pointer (some ⟨B,0,none⟩),.int .i64 m] W (qw s m B W):=by
 have HL:=h_ (Gq s B 320 W row hs h (by omega));have hR:Hid (∀V:World,V.heap[B]?=some (.cells #[.string s2,.bool false] 151 (0,0))→Calls Tryz.prog 109 #[.pointer (some ⟨B,0,none⟩),.int .i64 9] V (Ev s2 B V)):=fun V r=>Gq s2 B 9 V r hs2 h2 (by omega)
 have gb:=h_ (fun(h3:mkR (rrX s) (rrX s2) s3 m 0 []=none) (s':ByteArray) (w':World) h1 h4=>Iq (s':=s') (B:=B) (W:=W) (w':=w') (T4 (m:=m) h e2 h2 e3 h3) h1 h4);have gI:Hid (∀(L:List bc) (a:Nat) (A:Option Addr) (c:Nat) (b:Bool) (w':World),mkR (rrX s) (rrX s2) s3 m 0 []=some (L,a)→L.length=m→(b=true∧¬lr s3 a∨b=false∧lr s3 a)→w'.heap[B]?=some (.cells #[.string s3,.bool b] 151 (0,0))→ab w' w'.heap.size A L.length c bc.cells 3 L→W.grownBy w' (some B)→(∀z∈L,bc.ok z)→qw s m B W (.returned (.slice A L.length c)) w'):=fun L a A c b w' q1 q2 q3 q4 q5 q6 q7=>⟨A,L.length,c,s3,b,L,rfl,q4,q5,q6,q7,by omega,q3.imp (fun q=>⟨q.1,Is h e2 h2 e3 q1 q.2⟩) (fun q=>⟨q.1,T3 h e2 h2 e3 q1 q.2⟩)⟩
 have x4:=ag row;unfold Ev at HL hR;rw [←e2]at HL;rw [←e3]at hR;have gW:=h_ h.2.2;have gG:=h_ h2.2.2;have gE:=h_ h.2.1;have hZ:=h_ h2.2.1;generalize qw s m B W=PP at*;generalize rrX s=X at*;generalize rrX s2=X2 at*;clear row h h2 e2 e3;go_enter Tryz.func78,Tryz.ntmps78
 go_wp2_with(first
  |(refine xz rfl _ _ rfl rfl w3 gT rfl rfl hF.o.size hF.o.one ?_;intro w4 rd hB gQ;have hJ:=h_ (ah hH.o (ag hH.o) hB);have g4:=h_ (wg g3.o hB);have k4:=rc1 hJ.o;have gY:=h_ (hF.o.below hB);have gK:=h_ (hX.o.below hB);have gD:=h_ (ah hW.o (ag hW.o) hB);have gg:=h_ rd;clear rd hB)
  |(go_at_call 109;refine(hR.o w2 hN.o).mono ?_;rintro e w3 ⟨gT,rfl,hF,g3,hH⟩;have hX:=h_ (hD.o.past hN.o g3);have hW:=h_ ((g3.block _ hg.o (fun e=>g6.o e)).trans ra.o);replace hF:=h_ hF;replace g3:=h_ (we g2.o g3);replace hH:=h_ hH)
  |(refine xz rfl _ _ rfl rfl w1 gX rfl rfl hw.o.size hw.o.one ?_;intro w2 ra hD hg;replace ra:=h_ ra;replace hg:=h_ hg;have g6:=h_ (v0e hC.o);have hN:=h_ (ah hC.o (ag hC.o) hD);have g2:=h_ (wg g1.o hD);have k2:=rc1 hN.o;replace hD:=h_ (hw.o.below hD))
  |(go_at_call 109;refine HL.o.mono ?_;rintro e w1 ⟨gX,rfl,hw,g1,hC⟩;replace g1:=h_ g1;replace hC:=h_ hC;replace hw:=h_ hw))
 have gS:Hid (∀(V:World) (a:Nat),Below w4.heap.size w4 V→a≤8*s3.size→Calls Tryz.prog 110 #[.pointer (some ⟨w1.heap.size,0,none⟩),.string s3,.int .i64 a] V fun e w'=>∃q:Nat,e= .returned (.tuple #[.int .i64 (one X s3 a).1,.int .i64 (one X s3 a).2.1,.int .i64 (one X s3 a).2.2])∧w'=V.drewN q):=fun V a hb ha=>Yf s3 a (gK.o.below hb) (ah gD.o (ag gD.o) hb) gW.o (by rw [gE.o];omega) ha hs3
 have x1:Hid (∀(V:World) (a:Nat),Below w4.heap.size w4 V→a≤8*s3.size→Calls Tryz.prog 110 #[.pointer (some ⟨w3.heap.size,0,none⟩),.string s3,.int .i64 a] V fun e w'=>∃q:Nat,e= .returned (.tuple #[.int .i64 (one X2 s3 a).1,.int .i64 (one X2 s3 a).2.1,.int .i64 (one X2 s3 a).2.2])∧w'=V.drewN q):=fun V a hb ha=>Yf s3 a (gY.o.below hb) (ah gg.o (ag gg.o) hb) gG.o (by rw [hZ.o];omega) ha hs3
 have h6:Hid (∀V:World,Below w4.heap.size w4 V→V.heap[B]?=some (.cells #[.string s3,.bool false] 151 (0,0))):=fun V hb=>ah hJ.o (ag hJ.o) hb
 have gL:=h_ (ag hJ.o);have hS:Hid (∀V:World,Below w4.heap.size w4 V→W.grownBy V (some B)):=fun V hb=>wg g4.o hb
 have hG:=h_ (fun(h3:mkR X X2 s3 m 0 []=none) (V:World) (hb:Below w4.heap.size w4 V)=>gb.o h3 s3 (V.setCell ⟨B,1,none⟩ (.bool true)) (b9 (h6.o V hb)) (we (hS.o V hb) rt));clear HL hR gb k2 k4 g6 hD hW hF hX hH g3 hg hN g2 ra hC g1 hw gQ;go_loopw [7,8,27] (fun v7 v8 v27 wr=>∃(k a:Nat) (A:Option Addr) (c:Nat) (L:List bc),k≤m∧v7= .int .i64 a∧v8= .slice A L.length c∧v27= .int .i64 k∧Hid (MkJ X X2 s3 m k a L)∧Hid (af wr w4.heap.size 3 (.slice A L.length c) L.length (L.flatMap bc.cells))∧Hid (Below w4.heap.size w4 wr)) (fun _ _ v27 _=>m- (intOf v27).toNat)
 case atStart=>exact⟨0,0,none,0,[],zl,rfl,rfl,rfl,MkJ.start _ _ _ _,af.nil _ _ _,br⟩
 case round=>
  obtain⟨k,a,A,c,L,hk,rfl,rfl,rfl,HJ,hn,HB⟩:=hrel;obtain⟨w5,rfl⟩:∃z:World,z=wr:=⟨_,rfl⟩;have ga:=HJ.o.le;by_cases hg:k <m
  ·have i1:(k:Int) < (m:Int):=by omega
   have c0:=rc0 (h6.o _ HB.o);have HA:=h_ (gS.o w5 a HB.o ga);rcases Cc X s3 a ga with⟨x,a1,he,hx,ha0,ha1⟩|he|he
   ·have hI:=HJ.o.len;have G2:Hid (∀u∈(#[.int .i64 0,.int .i64 0,.int .u8 (x:Int)]:Array Value).toList,u.oneCell'=true):=by simp [Hid,Value.oneCell']
    have G3:Hid (L.length+1≤maxLen∧(L.length+1)*24≤140737488355328):=by unfold maxLen Hid;omega
    have G4:Hid (0 <3):=by simp [Hid]
    rw [he]at HA;by_cases hx256:x <256
    ·have hP:=h_ (HJ.o.byte hg he hx256 ha1);have i2:(x:Int) <256:=by omega
     have p1:IntKind.u8.wrap (x:Int)=(x:Int):=by rw [IntKind.wrap_u8];omega
     have hV:=h_ (Cp (L:=L) (m:=⟨0,0,x⟩));clear he hI
     go_wp2_with(first
      |(go_at_call 110;refine HA.o.mono ?_;rintro e w6 ⟨q,rfl,h0⟩;have h7:=h_ (jm h0 HB.o);have hq:=h_ (ks h0 hn.o);clear h0)
      |(at_builtin;refine dx (size:=3) (bytes:=24) (base:=w4.heap.size) (news:= #[.int .i64 0,.int .i64 0,.int .u8 (x:Int)]) rfl rfl Tryz.underlying154 D8 rfl G4.o hq.o rfl h7.o.size rfl rfl rfl G2.o G3.o.1 G3.o.2 ?_;intro A3 c3 w7 hY g5 x0;have hh:=h_ hY;have h5:=h_ (g5.below ler h7.o);clear hY g5 x0))
     go_roundw
     case rel=>exact⟨k+1,a1,A3,c3,_,by omega,rfl,by rw [List.length_append];rfl,by go_num,hP.o,by rw [←hV.o,List.length_append];exact hh.o,h5.o⟩
     case measure=>(simp [intOf];try omega)
    ·have i2:¬(x:Int) <256:=by omega
     have hz:=h_ (fun V hb=>x1.o V a1 hb ha1);rcases Cc X2 s3 a1 ha1 with⟨y,a2,he2,hy,hb0,hw⟩|he2|he2
     ·rw [he2]at hz;have x5:y <9:=by have:=hZ.o;omega
      have hx320:x <320:=by have:=gE.o;omega
      by_cases hfar:8*s3.size <a2+y
      ·have hu:=h_ (fun V hb=>hG.o (HJ.o.far hg he hx256 he2 hfar) V hb);have d1:=dT (show 8*(s3.size:Int) < (a2:Int)+(y:Int) by omega);clear he he2 hI hfar
       go_wp2_with(first
        |(go_at_call 110;refine(hz.o w6 h7.o).mono ?_;rintro e w7 ⟨q2,rfl,hd⟩;have h5:=h_ (jm hd h7.o);have hh:=h_ (ks hd hq.o);have r7:=h6.o _ h5.o;have c7:=rc0 r7;have k7:=rc1 r7;have f7:=ak r7 1;clear hd r7)
        |(go_at_call 110;refine HA.o.mono ?_;rintro e w6 ⟨q,rfl,h0⟩;have h7:=h_ (jm h0 HB.o);have hq:=h_ (ks h0 hn.o);have c6:=rc0 (h6.o _ h7.o);clear h0))
       exact hu.o w7 h5.o
      ·have hP:=h_ (fun hv hp=>HJ.o.copy hg he hx256 hx320 he2 hfar hv hp);have hT:=yb s3 a2 y
       have gZ:(2:Int)^y≤256:=by
        have h1:(2:Nat)^y≤2^8:=Nat.pow_le_pow_right (by omega) (by omega);have h3:((2^y:Nat):Int)≤((2^8:Nat):Int):=by exact_mod_cast h1
        simpa using h3
       have gJ:(0:Int) <2^y:=Int.pow_pos (by decide);have gH:=h_ (hP.o (by omega) (by omega));have hK:Hid (∀V,Calls Tryz.prog 111 #[.string s3,.int .i64 a2] V fun e w'=>∃b:Nat×Nat,e= .returned (.func (.func 140) #[] #[.pointer (some ⟨b.1,0,none⟩),.pointer (some ⟨b.2,0,none⟩)])∧(Rd w' V.heap.size b.1 b.2 s3 a2∧Below V.heap.size V w')):=fun V=>(V0 s3 a2 V).mono (by rintro e w' ⟨ba,bs,h1,h2,h3⟩;exact⟨(ba,bs),h1,h2,h3⟩)
       have hM:Hid (∀(V:World) (base ba bs:Nat),Rd V base ba bs s3 a2→Calls Tryz.prog 140 #[.int .i64 y,.pointer (some ⟨ba,0,none⟩),.pointer (some ⟨bs,0,none⟩)] V fun e w'=>e= .returned (.int .u64 (tn s3 a2 y))∧V.grownBy w' (some ba)):=fun V base ba bs hr=>(Qg s3 a2 y ba bs base V hr (by omega) (by omega) (by omega)).mono (by rintro e w' ⟨h1,_,h3⟩;exact⟨h1,h3⟩)
       have d1:=dF (show ¬8*(s3.size:Int) < (a2:Int)+(y:Int) by omega);have hV:=h_ (Cp (L:=L) (m:=⟨(x:Int)-253,2^y+tn s3 a2 y,0⟩));have G2:Hid (∀u∈(#[.int .i64 ((x:Int)-253),.int .i64 (2^y+tn s3 a2 y),.int .u8 0]:Array Value).toList,u.oneCell'=true):=by simp [Hid,Value.oneCell']
       have e1:IntKind.i64.wrap ((x:Int)-256)=(x:Int)-256:=by rw [IntKind.wrap_i64];omega
       have e2:IntKind.i64.wrap ((x:Int)-256+3)=(x:Int)-253:=by rw [IntKind.wrap_i64];omega
       have e3:IntKind.i64.wrap (2^y)=2^y:=by rw [IntKind.wrap_i64];omega
       have e4:IntKind.i64.wrap (tn s3 a2 y)=tn s3 a2 y:=by rw [IntKind.wrap_i64];omega
       have e5:IntKind.i64.wrap (2^y+tn s3 a2 y)=2^y+tn s3 a2 y:=by rw [IntKind.wrap_i64];omega
       have y0:(0:Int)≤(y:Int):=by omega
       clear he he2 hI hfar hP gZ gJ;obtain⟨x6,_⟩:=hT;generalize tn s3 a2 y=T at*
       go_wp2_with(first
        |(go_at_call 110;refine(hz.o w6 h7.o).mono ?_;rintro e w7 ⟨q2,rfl,hd⟩;have h5:=h_ (jm hd h7.o);have hh:=h_ (ks hd hq.o);have r7:=h6.o _ h5.o;have c7:=rc0 r7;have k7:=rc1 r7;have f7:=ak r7 1;clear hd r7)
        |(go_at_call 110;refine HA.o.mono ?_;rintro e w6 ⟨q,rfl,h0⟩;have h7:=h_ (jm h0 HB.o);have hq:=h_ (ks h0 hn.o);have c6:=rc0 (h6.o _ h7.o);clear h0))
       go_region_law(first
        |(refine oh (P:=Tryz.prog) (e:=194) (z:=.agg #[.int .i64 0,.int .i64 0,.int .u8 0]) (size:=3) (bytes:=24) (base:=w4.heap.size) rfl (.tmp 80) (.tmp 97) 154 rfl Tryz.underlying154 D8 rfl G4.o A L.length c (L.flatMap bc.cells) (by simp [go_sem]) (x3.o.alloc (.cells #[.int .i64 ((x:Int)-253),.int .i64 (2^y+T),.int .u8 0] 194)) (Oa hU.o ler) w9.heap.size 1 #[.int .i64 ((x:Int)-253),.int .i64 (2^y+T),.int .u8 0] 194 (by simp [go_sem]) (A_ w9 _) rfl G2.o G3.o.1 G3.o.2 ?_;intro A3 c3 x7 gB gw x2;have gN:=h_ gB;have gU:=h_ (gw.below ler (hU.o.alloc hU.o.size (.cells #[.int .i64 ((x:Int)-253),.int .i64 (2^y+T),.int .u8 0] 194)));clear gB gw x2)
        |(refine c0h rfl 140 #[.int .i64 y,.pointer (some ⟨ba,0,none⟩),.pointer (some ⟨bs,0,none⟩)] (.int .u64 T) (by simp [go_sem]) (hM.o w8 _ ba bs hc.o) ?_;intro w9 g9;have x3:=h_ (I6 hh.o.drew hL.o hc.o.hb g9);have hU:=h_ (L8 h5.o.drew h5.o.size hL.o hc.o.hb g9);clear g9)
        |(refine eh rfl 111 rfl #[.string s3,.int .i64 a2] (fun b:Nat×Nat=>.func (.func 140) #[] #[.pointer (some ⟨b.1,0,none⟩),.pointer (some ⟨b.2,0,none⟩)]) (by simp [go_sem]) (hK.o w7.drew) ?_;rintro⟨ba,bs⟩ w8 ⟨hc,hL⟩;replace hc:=h_ hc;replace hL:=h_ hL))
       all_goals
        go_wp2_with fail;go_roundw
        case rel=>exact⟨k+1,a2+y,A3,c3,_,by omega,by go_num,by rw [List.length_append];rfl,by go_num,gH.o,by rw [←hV.o,List.length_append];exact gN.o,gU.o⟩
        case measure=>(simp [intOf];try omega)
     ·have hu:=h_ (fun V hb=>hG.o (HJ.o.bad2 hg he hx256 he2 (by decide)) V hb);rw [he2]at hz;clear he he2 hI
      go_wp2_with(first
       |(go_at_call 110;refine(hz.o w6 h7.o).mono ?_;rintro e w7 ⟨q2,rfl,hd⟩;have h5:=h_ (jm hd h7.o);have hh:=h_ (ks hd hq.o);have r7:=h6.o _ h5.o;have c7:=rc0 r7;have k7:=rc1 r7;have f7:=ak r7 1;clear hd r7)
       |(go_at_call 110;refine HA.o.mono ?_;rintro e w6 ⟨q,rfl,h0⟩;have h7:=h_ (jm h0 HB.o);have hq:=h_ (ks h0 hn.o);have c6:=rc0 (h6.o _ h7.o);clear h0))
      exact hu.o w7 h5.o
     ·have hu:=h_ (fun V hb=>hG.o (HJ.o.bad2 hg he hx256 he2 (by decide)) V hb);rw [he2]at hz;clear he he2 hI
      go_wp2_with(first
       |(go_at_call 110;refine(hz.o w6 h7.o).mono ?_;rintro e w7 ⟨q2,rfl,hd⟩;have h5:=h_ (jm hd h7.o);have hh:=h_ (ks hd hq.o);have r7:=h6.o _ h5.o;have c7:=rc0 r7;have k7:=rc1 r7;have f7:=ak r7 1;clear hd r7)
       |(go_at_call 110;refine HA.o.mono ?_;rintro e w6 ⟨q,rfl,h0⟩;have h7:=h_ (jm h0 HB.o);have hq:=h_ (ks h0 hn.o);have c6:=rc0 (h6.o _ h7.o);clear h0))
      exact hu.o w7 h5.o
   ·have hu:=h_ (fun q=>hG.o (HJ.o.bad hg he (by decide)) (w5.drewN q) (below_drewN HB.o q));have c1:=rc1 (h6.o _ HB.o);have f1:=ak (h6.o _ HB.o) 1;rw [he]at HA;clear he;go_wp2_with(go_at_call 110;refine HA.o.mono ?_;rintro e w6 ⟨q,rfl,rfl⟩);exact hu.o q
   ·have hu:=h_ (fun q=>hG.o (HJ.o.bad hg he (by decide)) (w5.drewN q) (below_drewN HB.o q));have c1:=rc1 (h6.o _ HB.o);have f1:=ak (h6.o _ HB.o) 1;rw [he]at HA;clear he;go_wp2_with(go_at_call 110;refine HA.o.mono ?_;rintro e w6 ⟨q,rfl,rfl⟩);exact hu.o q
  ·obtain rfl:k=m:=by omega
   have i1:¬(k:Int) < (k:Int):=by omega
   have gC:mkR X X2 s3 k 0 []=some (L,a):=by rw [HJ.o.eq,Nat.sub_self];rfl
   have hQ:=h6.o _ HB.o;have c0:=rc0 hQ;have c1:=rc1 hQ;have f1:=ak hQ 1;have hE:=fun(b:Bool) (w':World) q3 q4 q5 q6=>gI.o L a A c b w' gC HJ.o.len q3 q4 q5 q6 HJ.o.ok
   obtain⟨j,hj⟩:∃j,j=8*s3.size-a:=⟨_,rfl⟩;have xb:8*(s3.size:Int)- (a:Int)=(j:Int):=by omega
   have gs:Hid (∀V:World,af V w4.heap.size 3 (.slice A L.length c) L.length (L.flatMap bc.cells)→ab V V.heap.size A L.length c bc.cells 3 L):=fun V ho=>ho.rows (enc:=bc.cells) (k:=3) (fun _=>rfl) (by decide)
   have g8:Hid (lr s3 a→∀V:World,Below w4.heap.size w4 V→af V w4.heap.size 3 (.slice A L.length c) L.length (L.flatMap bc.cells)→PP (.returned (.slice A L.length c)) V):=fun hf V hb ho=>hE false V (.inr ⟨rfl,hf⟩) (h6.o V hb) (gs.o V ho) (hS.o V hb)
   have g0:Hid (¬lr s3 a→∀V:World,Below w4.heap.size w4 V→af V w4.heap.size 3 (.slice A L.length c) L.length (L.flatMap bc.cells)→PP (.returned (.slice A L.length c)) (V.setCell ⟨B,1,none⟩ (.bool true))):=fun hf V hb ho=>hE true (V.setCell ⟨B,1,none⟩ (.bool true)) (.inl ⟨rfl,hf⟩) (b9 (h6.o V hb)) (gs.o _ (ho.setOther (fun e=>by have h1:=(ho.lt _ e).1;have h2:=gL.o;simp at h1;omega) _)) (we (hS.o V hb) rt)
   have hA:lr s3 a↔j <8∧tn s3 a j=0:=by unfold lr;rw [←hj]
   have gP:=h_ hj;clear hE gC hQ hj;rcases(show 8≤j∨j=0∨(0 <j∧j <8) by omega)with h8|h8|⟨h8,h9⟩
   ·have HP:=h_ (g0.o (fun h=>by have:=(hA.1 h).1;omega) w5 HB.o hn.o);have d1:=dT (show(8:Int)≤(j:Int) by omega);clear hA;go_wp2;exact HP.o
   ·have HP:=h_ (g8.o (hA.2 ⟨by omega,by rw [h8];rfl⟩) w5 HB.o hn.o);have d1:=dF (show ¬(8:Int)≤(j:Int) by omega);have d2:=dF (show ¬(0:Int) < (j:Int) by omega);have d3:¬0 <j:=by omega
    clear hA h8;go_wp2;exact HP.o
   ·have hK:Hid (∀V,Calls Tryz.prog 111 #[.string s3,.int .i64 a] V fun e w'=>∃ba bs:Nat,e= .returned (.func (.func 140) #[] #[.pointer (some ⟨ba,0,none⟩),.pointer (some ⟨bs,0,none⟩)])∧Rd w' V.heap.size ba bs s3 a∧Below V.heap.size V w'):=fun V=>V0 s3 a V
    have hM:Hid (∀(V:World) (base ba bs:Nat),Rd V base ba bs s3 a→Calls Tryz.prog 140 #[.int .i64 j,.pointer (some ⟨ba,0,none⟩),.pointer (some ⟨bs,0,none⟩)] V fun e w'=>e= .returned (.int .u64 (tn s3 a j))∧V.grownBy w' (some ba)):=fun V base ba bs hr=>(Qg s3 a j ba bs base V hr (by omega) (by have:=gP.o;omega) (by omega)).mono (by rintro e w' ⟨h1,_,h3⟩;exact⟨h1,h3⟩)
    have d1:=dF (show ¬(8:Int)≤(j:Int) by omega);have d2:=dT (show(0:Int) < (j:Int) by omega);have gF:=h_ (fun(h:tn s3 a j=0)=>g8.o (hA.2 ⟨h9,h⟩));have gM:=h_ (fun(h:tn s3 a j≠0)=>g0.o (fun k=>h (hA.1 k).2));clear hA;generalize tn s3 a j=T at*;by_cases hT:T=0
    ·have HP:=h_ (gF.o hT);have d3:(T !=0)=false:=by rw [hT];rfl
     clear hT
     go_wp2_with(first
      |(go_at_call 140;refine(hM.o w6 _ ba bs hc.o).mono ?_;rintro e w7 ⟨rfl,g7⟩;have hh:=h_ (I6 hn.o ht.o hc.o.hb g7);have h5:=h_ (L8 HB.o HB.o.size ht.o hc.o.hb g7);clear g7)
      |(go_at_call 111;refine(hK.o w5).mono ?_;rintro e w6 ⟨ba,bs,rfl,hc,ht⟩;replace hc:=h_ hc;replace ht:=h_ ht))
     exact HP.o w7 h5.o hh.o
    ·have HP:=h_ (gM.o hT);have d3:(T !=0)=true:=by simpa using hT
     clear hT
     go_wp2_with(first
      |(go_at_call 140;refine(hM.o w6 _ ba bs hc.o).mono ?_;rintro e w7 ⟨rfl,g7⟩;have hh:=h_ (I6 hn.o ht.o hc.o.hb g7);have h5:=h_ (L8 HB.o HB.o.size ht.o hc.o.hb g7);have r7:=h6.o _ h5.o;have c7:=rc1 r7;have f7:=ak r7 1;clear g7 r7)
      |(go_at_call 111;refine(hK.o w5).mono ?_;rintro e w6 ⟨ba,bs,rfl,hc,ht⟩;replace hc:=h_ hc;replace ht:=h_ ht))
     exact HP.o w7 h5.o hh.o
end Go.Proofs.YtcldpfhpkbeaiadGreat
namespace Go.Proofs
open Go.Shelf
def Tryz.lays169_ren:Go.Shelf.Ren:=⟨fun|169=>83|n=>n,fun|70=>158|9=>9|0=>0|72=>161|37=>159|127=>198|3=>3|5=>5|n=>n,fun|n=>n⟩
theorem Tryz.lays169:Go.Proofs.Lays.n169 Tryz.prog Tryz.lays169_ren:= {
 mixed:=by kernel_rfl
 f169:=Tryz.func83.trans (congrArg some (by kernel_rfl))
 t0:=Tryz.underlying0
 a0:=Tryz.isAgg0
 z0:=Tryz.sizeOf0
 v0:=Tryz.zeroValue0
 t3:=Tryz.underlying3
 a3:=Tryz.isAgg3
 z3:=Tryz.sizeOf3
 v3:=Tryz.zeroValue3
 t9:=Tryz.underlying9
 a9:=Tryz.isAgg9
 z9:=Tryz.sizeOf9
 v9:=Tryz.zeroValue9
 t37:=Tryz.underlying159
 a37:=Tryz.isAgg159
 z37:=Tryz.sizeOf159
 v37:=Tryz.zeroValue159
 t70:=Tryz.underlying158
 a70:=Tryz.isAgg158
 z70:=Tryz.sizeOf158
 v70:=Tryz.zeroValue158
 t72:=Tryz.underlying161
 a72:=Tryz.isAgg161
 z72:=Tryz.sizeOf161
 v72:=Tryz.zeroValue161
 t127:=Tryz.underlying198
 a127:=Tryz.isAgg198
 z127:=Tryz.sizeOf198
 v127:=Tryz.zeroValue198}
theorem Tryz.Builder_Extra_169:Builder.Extra Tryz.prog Tryz.lays169_ren:= {
 sizeBuilder:=by kernel_rfl
 liesBuilder:=by kernel_rfl
 t5:=Tryz.underlying5
 a5:=Tryz.isAgg5
 z5:=Tryz.sizeOf5
 v5:=Tryz.zeroValue5
 infoByte:=by kernel_rfl
 cellsByte:=by kernel_rfl
 sizeByte:=by kernel_rfl
 neB5:=by decide}
open Go.RowKit in
theorem Tryz.Builder_String_any(B b:Nat)(l:List UInt8)(w:World)(h:Lib.IsBuilder 161 5 B b (Lib.byteCells l) w)(hBw:B≤w.heap.size):Calls Tryz.prog 83 #[.pointer (some ⟨b,0,none⟩)] w fun e w'=>e= .returned (.string ⟨l.toArray⟩)∧Below B w w':=Any.Builder_String_any Tryz.lays169 Tryz.Builder_Extra_169 B b l w h hBw
def Tryz.lays119_ren:Go.Shelf.Ren:=⟨fun|119=>166|n=>n,fun|21=>21|4=>4|n=>n,fun|n=>n⟩
theorem Tryz.lays119:Go.Proofs.Lays.n119 Tryz.prog Tryz.lays119_ren:= {
 mixed:=by kernel_rfl
 f119:=Tryz.func166.trans (congrArg some (by kernel_rfl))
 t4:=Tryz.underlying4
 a4:=Tryz.isAgg4
 z4:=Tryz.sizeOf4
 v4:=Tryz.zeroValue4
 t21:=Tryz.underlying21
 a21:=Tryz.isAgg21
 z21:=Tryz.sizeOf21
 v21:=Tryz.zeroValue21}
theorem Tryz.utf8_ValidRune(r:Int)(w:World):Calls Tryz.prog 166 #[.int .i32 r] w fun e w'=>e= .returned (.bool (Lib.validRune r))∧w'=w:=Any.utf8_ValidRune Tryz.lays119 r w
def Tryz.lays137_ren:Go.Shelf.Ren:=⟨fun|137=>165|217=>169|266=>170|n=>n,fun|9=>9|5=>5|3=>3|n=>n,fun|n=>n⟩
theorem Tryz.lays137:Go.Proofs.Lays.n137 Tryz.prog Tryz.lays137_ren:= {
 mixed:=by kernel_rfl
 f137:=Tryz.func165.trans (congrArg some (by kernel_rfl))
 f217:=Tryz.func169.trans (congrArg some (by kernel_rfl))
 f266:=Tryz.func170.trans (congrArg some (by kernel_rfl))
 t3:=Tryz.underlying3
 a3:=Tryz.isAgg3
 z3:=Tryz.sizeOf3
 v3:=Tryz.zeroValue3
 t5:=Tryz.underlying5
 a5:=Tryz.isAgg5
 z5:=Tryz.sizeOf5
 v5:=Tryz.zeroValue5
 t9:=Tryz.underlying9
 a9:=Tryz.isAgg9
 z9:=Tryz.sizeOf9
 v9:=Tryz.zeroValue9}
open Go.RowKit in
theorem Tryz.strings_IndexByte(s:ByteArray)(c:Int)(w:World):Calls Tryz.prog 165 #[.string s,.int .u8 c] w fun e w'=>e= .returned (.int .i64 (Lib.indexByte s.data.toList c.toNat.toUInt8))∧w'=w:=Any.strings_IndexByte Tryz.lays137 s c w
def Tryz.lays152_ren:Go.Shelf.Ren:=⟨fun|152=>161|137=>165|119=>166|224=>167|225=>168|217=>169|266=>170|n=>n,fun|9=>9|21=>21|3=>3|4=>4|5=>5|0=>0|46=>169|n=>n,fun|n=>n⟩
theorem Tryz.lays152:Go.Proofs.Lays.n152 Tryz.prog Tryz.lays152_ren:= {
 mixed:=by kernel_rfl
 f119:=Tryz.func166.trans (congrArg some (by kernel_rfl))
 f137:=Tryz.func165.trans (congrArg some (by kernel_rfl))
 f152:=Tryz.func161.trans (congrArg some (by kernel_rfl))
 f217:=Tryz.func169.trans (congrArg some (by kernel_rfl))
 f224:=Tryz.func167.trans (congrArg some (by kernel_rfl))
 f225:=Tryz.func168.trans (congrArg some (by kernel_rfl))
 f266:=Tryz.func170.trans (congrArg some (by kernel_rfl))
 t0:=Tryz.underlying0
 a0:=Tryz.isAgg0
 z0:=Tryz.sizeOf0
 v0:=Tryz.zeroValue0
 t3:=Tryz.underlying3
 a3:=Tryz.isAgg3
 z3:=Tryz.sizeOf3
 v3:=Tryz.zeroValue3
 t4:=Tryz.underlying4
 a4:=Tryz.isAgg4
 z4:=Tryz.sizeOf4
 v4:=Tryz.zeroValue4
 t5:=Tryz.underlying5
 a5:=Tryz.isAgg5
 z5:=Tryz.sizeOf5
 v5:=Tryz.zeroValue5
 t9:=Tryz.underlying9
 a9:=Tryz.isAgg9
 z9:=Tryz.sizeOf9
 v9:=Tryz.zeroValue9
 t21:=Tryz.underlying21
 a21:=Tryz.isAgg21
 z21:=Tryz.sizeOf21
 v21:=Tryz.zeroValue21
 t46:=Tryz.underlying169
 a46:=Tryz.isAgg169
 z46:=Tryz.sizeOf169
 v46:=Tryz.zeroValue169}
open Go.RowKit Go.Lib in
theorem Tryz.strings_IndexRune_ascii(s:ByteArray)(r:Int)(w:World)(h0:0≤r)(h1:r <128):Calls Tryz.prog 161 #[.string s,.int .i32 r] w fun e w'=>e= .returned (.int .i64 (Lib.indexByte s.data.toList r.toNat.toUInt8))∧w'=w:=Any.strings_IndexRune_ascii Tryz.lays152 s r w h0 h1
def Tryz.lays226_ren:Go.Shelf.Ren:=⟨fun|226=>162|n=>n,fun|3=>3|4=>4|n=>n,fun|n=>n⟩
theorem Tryz.lays226:Go.Proofs.Lays.n226 Tryz.prog Tryz.lays226_ren:= {
 mixed:=by kernel_rfl
 f226:=Tryz.func162.trans (congrArg some (by kernel_rfl))
 t3:=Tryz.underlying3
 a3:=Tryz.isAgg3
 z3:=Tryz.sizeOf3
 v3:=Tryz.zeroValue3
 t4:=Tryz.underlying4
 a4:=Tryz.isAgg4
 z4:=Tryz.sizeOf4
 v4:=Tryz.zeroValue4}
open Go.RowKit Go.Lib in
theorem Tryz.strings_shouldUseASCIISet(n:Int)(w:World):Calls Tryz.prog 162 #[.int .i64 n] w fun e w'=>e= .returned (.bool (decide (8 <n)))∧w'=w:=Any.strings_shouldUseASCIISet Tryz.lays226 n w
def Tryz.lays153_ren:Go.Shelf.Ren:=⟨fun|153=>160|152=>161|226=>162|227=>163|228=>164|137=>165|119=>166|224=>167|225=>168|217=>169|266=>170|n=>n,fun|9=>9|3=>3|4=>4|5=>5|21=>21|117=>237|116=>236|0=>0|46=>169|124=>242|n=>n,fun|n=>n⟩
theorem Tryz.lays153:Go.Proofs.Lays.n153 Tryz.prog Tryz.lays153_ren:= {
 mixed:=by kernel_rfl
 f119:=Tryz.func166.trans (congrArg some (by kernel_rfl))
 f137:=Tryz.func165.trans (congrArg some (by kernel_rfl))
 f152:=Tryz.func161.trans (congrArg some (by kernel_rfl))
 f153:=Tryz.func160.trans (congrArg some (by kernel_rfl))
 f217:=Tryz.func169.trans (congrArg some (by kernel_rfl))
 f224:=Tryz.func167.trans (congrArg some (by kernel_rfl))
 f225:=Tryz.func168.trans (congrArg some (by kernel_rfl))
 f226:=Tryz.func162.trans (congrArg some (by kernel_rfl))
 f227:=Tryz.func163.trans (congrArg some (by kernel_rfl))
 f228:=Tryz.func164.trans (congrArg some (by kernel_rfl))
 f266:=Tryz.func170.trans (congrArg some (by kernel_rfl))
 t0:=Tryz.underlying0
 a0:=Tryz.isAgg0
 z0:=Tryz.sizeOf0
 v0:=Tryz.zeroValue0
 t3:=Tryz.underlying3
 a3:=Tryz.isAgg3
 z3:=Tryz.sizeOf3
 v3:=Tryz.zeroValue3
 t4:=Tryz.underlying4
 a4:=Tryz.isAgg4
 z4:=Tryz.sizeOf4
 v4:=Tryz.zeroValue4
 t5:=Tryz.underlying5
 a5:=Tryz.isAgg5
 z5:=Tryz.sizeOf5
 v5:=Tryz.zeroValue5
 t9:=Tryz.underlying9
 a9:=Tryz.isAgg9
 z9:=Tryz.sizeOf9
 v9:=Tryz.zeroValue9
 t21:=Tryz.underlying21
 a21:=Tryz.isAgg21
 z21:=Tryz.sizeOf21
 v21:=Tryz.zeroValue21
 t46:=Tryz.underlying169
 a46:=Tryz.isAgg169
 z46:=Tryz.sizeOf169
 v46:=Tryz.zeroValue169
 t116:=Tryz.underlying236
 a116:=Tryz.isAgg236
 z116:=Tryz.sizeOf236
 t117:=Tryz.underlying237
 a117:=Tryz.isAgg237
 z117:=Tryz.sizeOf237
 v117:=Tryz.zeroValue237
 t124:=Tryz.underlying242
 a124:=Tryz.isAgg242
 z124:=Tryz.sizeOf242
 v124:=Tryz.zeroValue242}
open Go.RowKit Go.Lib in
theorem Tryz.strings_IndexAny_long(hv116:∀w,(zeroValue 236).run Tryz.prog w= .ok (.agg (Array.replicate 256 (.bool false))) w)(s chars:ByteArray)(w:World)(h2:2≤chars.size)(h8:8 <s.size)(hs:s.size <4294967281)(hcs:chars.size <4294967281)(hascii:∀(j:Nat) b,chars.data.toList[j]?=some b→b.toNat <128):Calls Tryz.prog 160 #[.string s,.string chars] w fun e w'=>e= .returned (.int .i64 (Lib.indexAny s.data.toList chars.data.toList))∧w'=((w.alloc (.cells (Lib.setCells chars.data.toList) 236)).alloc (.cells (Lib.setCells chars.data.toList) 236)):=Any.strings_IndexAny_long Tryz.lays153 hv116 (by kernel_rfl) s chars w h2 h8 hs hcs hascii
def Tryz.lays105_ren:Go.Shelf.Ren:=⟨fun|105=>77|212=>105|99=>106|165=>107|166=>82|170=>108|169=>83|263=>132|264=>133|206=>134|240=>113|241=>135|276=>141|277=>154|n=>n,fun|9=>9|3=>3|4=>4|20=>20|0=>0|46=>169|109=>182|5=>5|72=>161|76=>164|51=>167|146=>213|53=>121|148=>215|70=>158|37=>159|75=>163|127=>198|164=>219|80=>166|n=>n,fun|n=>n⟩
theorem Tryz.lays105:Go.Proofs.Lays.n105 Tryz.prog Tryz.lays105_ren:= {
 mixed:=by kernel_rfl
 f99:=Tryz.func106.trans (congrArg some (by kernel_rfl))
 f105:=Tryz.func77.trans (congrArg some (by kernel_rfl))
 f165:=Tryz.func107.trans (congrArg some (by kernel_rfl))
 f166:=Tryz.func82.trans (congrArg some (by kernel_rfl))
 f169:=Tryz.func83.trans (congrArg some (by kernel_rfl))
 f170:=Tryz.func108.trans (congrArg some (by kernel_rfl))
 f206:=Tryz.func134.trans (congrArg some (by kernel_rfl))
 f212:=Tryz.func105.trans (congrArg some (by kernel_rfl))
 f240:=Tryz.func113.trans (congrArg some (by kernel_rfl))
 f241:=Tryz.func135.trans (congrArg some (by kernel_rfl))
 f263:=Tryz.func132.trans (congrArg some (by kernel_rfl))
 f264:=Tryz.func133.trans (congrArg some (by kernel_rfl))
 f276:=Tryz.func141.trans (congrArg some (by kernel_rfl))
 f277:=Tryz.func154.trans (congrArg some (by kernel_rfl))
 t0:=Tryz.underlying0
 a0:=Tryz.isAgg0
 z0:=Tryz.sizeOf0
 v0:=Tryz.zeroValue0
 t3:=Tryz.underlying3
 a3:=Tryz.isAgg3
 z3:=Tryz.sizeOf3
 v3:=Tryz.zeroValue3
 t4:=Tryz.underlying4
 a4:=Tryz.isAgg4
 z4:=Tryz.sizeOf4
 v4:=Tryz.zeroValue4
 t5:=Tryz.underlying5
 a5:=Tryz.isAgg5
 z5:=Tryz.sizeOf5
 v5:=Tryz.zeroValue5
 t9:=Tryz.underlying9
 a9:=Tryz.isAgg9
 z9:=Tryz.sizeOf9
 v9:=Tryz.zeroValue9
 t20:=Tryz.underlying20
 a20:=Tryz.isAgg20
 z20:=Tryz.sizeOf20
 v20:=Tryz.zeroValue20
 t37:=Tryz.underlying159
 a37:=Tryz.isAgg159
 z37:=Tryz.sizeOf159
 v37:=Tryz.zeroValue159
 t46:=Tryz.underlying169
 a46:=Tryz.isAgg169
 z46:=Tryz.sizeOf169
 v46:=Tryz.zeroValue169
 t51:=Tryz.underlying167
 a51:=Tryz.isAgg167
 z51:=Tryz.sizeOf167
 v51:=Tryz.zeroValue167
 t53:=Tryz.underlying121
 a53:=Tryz.isAgg121
 z53:=Tryz.sizeOf121
 v53:=Tryz.zeroValue121
 t70:=Tryz.underlying158
 a70:=Tryz.isAgg158
 z70:=Tryz.sizeOf158
 v70:=Tryz.zeroValue158
 t72:=Tryz.underlying161
 a72:=Tryz.isAgg161
 z72:=Tryz.sizeOf161
 v72:=Tryz.zeroValue161
 t75:=Tryz.underlying163
 a75:=Tryz.isAgg163
 z75:=Tryz.sizeOf163
 v75:=Tryz.zeroValue163
 t76:=Tryz.underlying164
 a76:=Tryz.isAgg164
 z76:=Tryz.sizeOf164
 v76:=Tryz.zeroValue164
 t109:=Tryz.underlying182
 a109:=Tryz.isAgg182
 z109:=Tryz.sizeOf182
 v109:=Tryz.zeroValue182
 t127:=Tryz.underlying198
 a127:=Tryz.isAgg198
 z127:=Tryz.sizeOf198
 v127:=Tryz.zeroValue198
 t146:=Tryz.underlying213
 a146:=Tryz.isAgg213
 z146:=Tryz.sizeOf213
 v146:=Tryz.zeroValue213
 t148:=Tryz.underlying215
 a148:=Tryz.isAgg215
 z148:=Tryz.sizeOf215
 v148:=Tryz.zeroValue215
 t164:=Tryz.underlying219
 a164:=Tryz.isAgg219
 z164:=Tryz.sizeOf219
 v164:=Tryz.zeroValue219}
theorem Tryz.Builder_Extra_105:Builder.Extra Tryz.prog Tryz.lays105_ren:= {
 sizeBuilder:=by kernel_rfl
 liesBuilder:=by kernel_rfl
 t5:=Tryz.underlying5
 a5:=Tryz.isAgg5
 z5:=Tryz.sizeOf5
 v5:=Tryz.zeroValue5
 infoByte:=by kernel_rfl
 cellsByte:=by kernel_rfl
 sizeByte:=by kernel_rfl
 neB5:=by decide}
open Go.RowKit Go.Lib in
theorem Tryz.strings_Repeat(s:ByteArray)(c:Nat)(w:World)(hc:c≤9223372036854775807)(hlen:s.size*c≤140737488355328):Calls Tryz.prog 77 #[.string s,.int .i64 c] w fun e w'=>e= .returned (.string ⟨(Lib.repeatL s.data.toList c).toArray⟩)∧Below w.heap.size w w':=Any.strings_Repeat Tryz.lays105 Tryz.Builder_Extra_105 s c w hc hlen
end Go.Proofs
