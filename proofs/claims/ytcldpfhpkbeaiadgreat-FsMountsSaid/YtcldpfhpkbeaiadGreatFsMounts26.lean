/- A part of the proof of FsMounts. No condition of ours. -/
import Derived.Test.YtcldpfhpkbeaiadGreatFsMounts25
import Derived.Laws.Runes
import Derived.Laws.RangeAny
import Derived.WalkMore
import Derived.Lib.OthersKept
set_option maxRecDepth 100000
set_option maxHeartbeats 2000000
namespace Go.Proofs.YtcldpfhpkbeaiadGreat
section
open Go.RowKit
abbrev sl0:ByteArray:=⟨#[47,0]⟩
theorem a0e(r:Int):Utf8.valid r=Lib.validRune r:=by
 simp only [Utf8.valid,Lib.validRune];by_cases h:(0≤r∧r <55296)∨(57343 <r∧r≤1114111)
 ·rw [dT h];rcases h with h|h<;>simp<;>omega
 ·rw [dF h];simp;omega
theorem Yp(w:World)(s:ByteArray)(p:Nat):Below w.heap.size w (w.iter s p):=br.alloc ler _
theorem o0n(r:Int)(h0:128≤r)(h1:r≤2147483647)(w:World):Calls Tryz.prog 161 #[.string sl0,.int .i32 r] w fun e w'=>e= .returned (.int .i64 (-1))∧Below w.heap.size w w':=by
 by_cases hE:r=65533
 ·subst hE;have n0:∀ty,(Instr.next (.pointer (some ⟨w.heap.size,0,none⟩)) true ty).run Tryz.prog (w.iter sl0 0)= .ok (.tuple #[.bool true,.int .i64 0,.int .i32 47]) (w.iter sl0 1):=fun ty=>run_next_ascii (P:=Tryz.prog) w sl0 0 ty (by decide) (by decide)
  have n1:∀ty,(Instr.next (.pointer (some ⟨w.heap.size,0,none⟩)) true ty).run Tryz.prog (w.iter sl0 1)= .ok (.tuple #[.bool true,.int .i64 1,.int .i32 0]) (w.iter sl0 2):=fun ty=>run_next_ascii (P:=Tryz.prog) w sl0 1 ty (by decide) (by decide)
  have n2:=fun ty=>run_next_end (P:=Tryz.prog) w sl0 2 ty (by decide)
  go_enter Tryz.func161,Tryz.ntmps161;go_wp2;go_loopw [5,6] (fun v5 v6 wr=>∃i:Nat,i≤2∧wr=w.iter sl0 i) (fun _ _ wr=>2-wr.iterPos w.heap.size)
  case atStart=>exact⟨0,by omega,rfl⟩
  case round=>
   obtain⟨i,hi,rfl⟩:=hrel;rcases(show i=0∨i=1∨i=2 by omega)with rfl|rfl|rfl
   ·go_wp2;go_roundw
    case rel=>exact⟨1,by omega,rfl⟩
    case measure=>simp
   ·go_wp2;go_roundw
    case rel=>exact⟨2,by omega,rfl⟩
    case measure=>simp
   ·go_wp2;go_ret;exact⟨rfl,Yp _ _ _⟩
 ·have hq:(r==65533)=false:=bF hE;have HV:Hid (∀W,Calls Tryz.prog 166 #[.int .i32 r] W fun e w'=>e= .returned (.bool (Lib.validRune r))∧w'=W):=fun W=>Tryz.utf8_ValidRune r W
  by_cases hv:Lib.validRune r=true
  ·rw [hv]at HV;obtain⟨f1,f2,f3⟩:=encode_facts r (by rw [a0e];exact hv) h0;generalize hen:Utf8.encode r=en at*;have h8:=h_ hen;obtain⟨m,hm⟩:∃m,en.size=m+1:=⟨en.size-1,by omega⟩;have ha:m≤3:=by omega
   have h7:1≤m:=by omega
   have hc:((en.size:Nat):Int)=(m:Int)+1:=by omega
   have h6:Hid (∀(x:Int) W,Calls Tryz.prog 165 #[.string ByteArray.empty,.int .u8 x] W fun e w'=>e= .returned (.int .i64 (-1))∧w'=W):=fun x W=>Tryz.strings_IndexByte ByteArray.empty x W
   clear hv hen f1 f2;go_enter Tryz.func161,Tryz.ntmps161;go_wp2_with(go_at_call 166;refine(HV.o _).mono ?_;rintro e w' ⟨rfl,h4⟩;rw [h4];clear h4)
   have hp:∀W:World,(convert 21 9 (.int .i32 r)).run Tryz.prog W= .ok (.string en) W:=fun W=>by rw [run_convert_int_string (P:=Tryz.prog) W 21 9 .i32 r (by rw [Tryz.underlying21];rfl) Tryz.underlying9,h8.o]
   go_step3;go_wp2;go_loopw [9] (fun v9 wr=>v9= .int .i64 m∧wr=w) (fun _ _=>0)
   case atStart=>exact⟨by go_num,rfl⟩
   case round=>
    obtain⟨rfl,rfl⟩:=hrel;by_cases hm2:m=1
    ·subst hm2;have h2:(en.size:Int)=2:=by omega
     have h3:1 <en.size:=by omega
     obtain⟨y,hy⟩:∃y:Nat,(en[1]'h3).toNat=y:=⟨_,rfl⟩
     have hy128:128≤y:=by
      have:=f3 (by omega);rw [←hy];have e:en[en.size-1]'(by omega)=en[1]'h3:=by congr 1;omega
      rw [e]at this;exact this
     have hy256:y <256:=by rw [←hy];exact UInt8.toNat_lt _
     have hf:∀h:1 <en.size,((en[1]'h).toNat)=y:=fun _=>hy
     have he:sl0.extract 2 2=⟨#[]⟩:=by decide
     have hg:sl0.size=2:=rfl;have hn:IntKind.i64.wrap 2=2:=by decide
     have hk:IntKind.i64.wrap (1+1)=2:=by decide
     have hd:∀h:1 <sl0.size,((sl0[1]'h).toNat)=0:=fun _=>rfl
     have hh:((0:Int)!=(y:Int))=true:=bN (by omega);clear f3 hm ha h7 hc hy;go_wp2;go_step3;go_upto_region 6 with fail;go_quiet(fail);go_upto_region 7 with fail;have h9:Below wr.heap.size wr (wr.drewN nq):=below_drewN (Below.refl wr.heap.size wr) nq;generalize wr.drewN nq=wd at*;go_quiet((go_at_call 165;exact Calls.quiet_of_same (h6.o _ _)));go_wp2;rw [Exit.noGoto_ret];go_wp2;rw [Exit.noGoto_ret];go_wp2;go_ret;exact⟨rfl,below_drewN h9 nq⟩
    ·have hj:¬(m:Int) <2:=by omega
     go_wp2;go_ret;exact⟨rfl,br⟩
  ·have h5:Lib.validRune r=false:=by simpa using hv
   rw [h5]at HV;clear hv h5;go_enter Tryz.func161,Tryz.ntmps161;go_wp2_with(go_at_call 166;refine(HV.o _).mono ?_;rintro e w' ⟨rfl,h4⟩;rw [h4];clear h4);go_ret;exact⟨rfl,br⟩
end
section
open Go.RowKit Go.PlainAid
section
variable {P:Program}
theorem k0m{W:World}{b pos:Nat}{s:ByteArray}(h:W.heap[b]?=some (.stringIter s pos))(hp:pos <s.size):∃W2,(∀ty,(Instr.next (.pointer (some ⟨b,0,none⟩)) true ty).run P W= .ok (.tuple #[.bool true,.int .i64 pos,.int .i32 (Utf8.decode s pos).1]) W2)∧W2.heap[b]?=some (.stringIter s (pos+(Utf8.decode s pos).2))∧∀B,B≤b→Below B W W2:=by
 have hb:b <W.heap.size:=by
  rcases Nat.lt_or_ge b W.heap.size with h'|h'
  ·exact h'
  ·rw [Array.getElem?_eq_none h']at h;cases h
 refine⟨{W with heap:=W.heap.setIfInBounds b (.stringIter s (pos+(Utf8.decode s pos).2))},fun ty=>?_,?_,fun B hB=>?_⟩
 ·simp [Instr.next,getObj,setObj,Sem.run_bind,Sem.run,h,Result.andThen,hp,goInt]
 ·simp [hb]
 ·exact⟨rfl,rfl,rfl,by simp,fun k hk=>by simp [show b≠k by omega]⟩
theorem k0n{W:World}{b pos:Nat}{s:ByteArray}(h:W.heap[b]?=some (.stringIter s pos))(hp:¬pos <s.size)(ty:TypeId):(Instr.next (.pointer (some ⟨b,0,none⟩)) true ty).run P W= .ok (.tuple #[.bool false]) W:=by simp [Instr.next,getObj,Sem.run,h,hp]
end
theorem Ux(s:ByteArray)(k:Nat)(h:k <s.size):(s.get! k).toNat=bt s k:=by rw [←get_bt s k h];have:s.get! k=s[k]'h:=get_at s k h;rw [this]
theorem t0a(s:ByteArray)(pos:Nat)(h:pos <s.size)(ha:128≤bt s pos):pos+(Utf8.decode s pos).2≤s.size∧∀j,pos≤j→j <pos+(Utf8.decode s pos).2→128≤bt s j:=by
 have h3:(Utf8.decode s pos).2=1∨(pos+(Utf8.decode s pos).2≤s.size∧∀k,1≤k→k < (Utf8.decode s pos).2→(s.get! (pos+k)).toNat/64=2):=by
  have h0:¬(s.get! (pos+0)).toNat <128:=by have:=Ux s (pos+0) h;simp only [Nat.add_zero]at*;omega
  simp only [Utf8.decode,h0,if_false];split
  ·rename_i hc;simp at hc;split
   ·right;refine⟨by omega,fun k h1 h2=>?_⟩;have:k=1:=by omega
    subst this;exact hc.2.2
   ·left;rfl
  ·split
   ·rename_i hc;simp at hc;split
    ·right;refine⟨by omega,fun k h1 h2=>?_⟩;rcases(show k=1∨k=2 by omega)with rfl|rfl
     ·exact hc.1.2.2
     ·exact hc.2.2
    ·left;rfl
   ·split
    ·rename_i hc;simp at hc;split
     ·right;refine⟨by omega,fun k h1 h2=>?_⟩;rcases(show k=1∨k=2∨k=3 by omega)with rfl|rfl|rfl
      ·exact hc.1.1.2.2
      ·exact hc.1.2.2
      ·exact hc.2.2
     ·left;rfl
    ·left;rfl
 rcases h3 with e|⟨e1,e2⟩
 ·rw [e];refine⟨by omega,fun j h1 h2=>?_⟩;have:j=pos:=by omega
  rw [this];exact ha
 ·refine⟨e1,fun j h1 h2=>?_⟩;by_cases hj:j=pos
  ·rw [hj];exact ha
  ·have:=e2 (j-pos) (by omega) (by omega);rw [show pos+(j-pos)=j by omega]at this;rw [←Ux s j (by omega)];omega
def Lt(s:ByteArray)(w:World)(e:Ending)(w':World):Prop:=∃k:Int,e= .returned (.int .i64 k)∧decide (0≤k)=Lib.containsAny s.data.toList [47,0]∧Below w.heap.size w w'
theorem w0g{s:ByteArray}(h:∀j,j <s.size→bt s j≠0∧bt s j≠47):Lib.containsAny s.data.toList [47,0]=false:=by
 cases e:Lib.containsAny s.data.toList [47,0]with
 |false=>rfl
 |true=>
  obtain⟨i,hi,hx⟩:=(Lb s).1 e;have:=h i hi;rcases hx with hx|hx
  ·exact absurd hx this.1
  ·exact absurd hx this.2
theorem Lc{s:ByteArray}{i:Nat}(hi:i <s.size)(h:bt s i=0∨bt s i=47):Lib.containsAny s.data.toList [47,0]=true:=(Lb s).2 ⟨i,hi,h⟩
theorem p0t(s:ByteArray)(h8:s.size≤8)(w:World):Calls Tryz.prog 160 #[.string s,.string sl0] w (Lt s w):=by
 have HS:Hid (∀(n:Int) W,Calls Tryz.prog 162 #[.int .i64 n] W fun e w'=>e= .returned (.bool (decide (8 <n)))∧w'=W):=fun n W=>Tryz.strings_shouldUseASCIISet n W
 have hq:decide ((8:Int) < (s.size:Int))=false:=dF (by omega);have hv:¬(8:Int) < (s.size:Int):=by omega
 go_enter Tryz.func160,Tryz.ntmps160;go_wp2_with(go_at_call 162;refine(HS.o _ _).mono ?_;rintro e w' ⟨rfl,h0⟩;rw [h0,hq];clear h0);go_loopw [9,10] (fun _ _ wr=>∃i:Nat,i≤s.size∧Hid (Below w.heap.size w wr∧wr.heap[w.heap.size]?=some (.stringIter s i)∧∀j,j <i→bt s j≠0∧bt s j≠47)) (fun _ _ wr=>s.size-wr.iterPos w.heap.size)
 case atStart=>exact⟨0,zl,Yp _ _ _,World.iter_heap _ _ _,fun j hj=>absurd hj (Nat.not_lt_zero _)⟩
 case round=>
  obtain⟨i,hi,HR⟩:=hrel;obtain⟨wq,rfl⟩:∃z:World,z=wr:=⟨_,rfl⟩;have hR:=HR.o;by_cases hlt:i <s.size
  ·obtain⟨w2,h6,ha,h9⟩:=k0m (P:=Tryz.prog) hR.2.1 hlt;have h4:=h_ ha;have h7:=h_ (hR.1.trans (h9 w.heap.size ler));have hm:=bt_nonneg s i;have hp:=bt_le s i;by_cases hlo:bt s i <128
   ·have hd:Utf8.decode s i=((bt s i).toNat,1):=by have hx:=get_bt s i hlt;rw [decode_ascii s i hlt (by omega)];congr 1;omega
    have hn:(((bt s i).toNat:Nat):Int)=bt s i:=by omega
    have h5:Hid (∀W,Calls Tryz.prog 161 #[.string sl0,.int .i32 (bt s i)] W fun e w'=>e= .returned (.int .i64 (Lib.indexByte [47,0] (bt s i).toNat.toUInt8))∧w'=W):=fun W=>Tryz.strings_IndexRune_ascii sl0 (bt s i) W hm (by omega)
    rw [hd]at h6 h4;simp only [hn]at h6;have HA:=h_ hR.2.2;clear hR h9 ha hd hn;by_cases hh:bt s i=0∨bt s i=47
    ·have HH:=h_ (Lc hlt hh)
     obtain⟨k,hk,hu⟩:∃k:Int,Lib.indexByte [47,0] (bt s i).toNat.toUInt8=k∧0≤k:=by refine⟨_,rfl,?_⟩;rcases hh with h|h<;>rw [h]<;>decide
     rw [hk]at h5;clear hk hh;generalize bt s i=x at*;go_wp2_with(go_at_call 161;refine(h5.o _).mono ?_;rintro e w' ⟨rfl,h0⟩;rw [h0];clear h0);go_ret;exact⟨i,rfl,by rw [HH.o];exact dT (by omega),h7.o⟩
    ·have hk:Lib.indexByte [47,0] (bt s i).toNat.toUInt8= -1:=by
      unfold Lib.indexByte;have h1:¬(47:UInt8)=(bt s i).toNat.toUInt8:=fun e=>hh (.inr (by have:=congrArg UInt8.toNat e;simp at this;omega))
      have h2:¬(0:UInt8)=(bt s i).toNat.toUInt8:=fun e=>hh (.inl (by have:=congrArg UInt8.toNat e;simp at this;omega))
      simp [h1,h2,Lib.indexByte]
     rw [hk]at h5
     have HN:Hid (∀j,j <i+1→bt s j≠0∧bt s j≠47):=fun j hj=>by
      by_cases e:j=i
      ·rw [e];exact not_or.1 hh
      ·exact HA.o j (by omega)
     have HP:Hid (wq.iterPos w.heap.size=i):=by simp [Hid,World.iterPos,HR.o.2.1]
     have hc:Hid (w2.iterPos w.heap.size=i+1):=by simp [Hid,World.iterPos,h4.o]
     clear hk hh;generalize bt s i=x at*;go_wp2_with(go_at_call 161;refine(h5.o _).mono ?_;rintro e w' ⟨rfl,h0⟩;rw [h0];clear h0);go_roundw
     case rel=>exact⟨i+1,by omega,h7.o,h4.o,HN.o⟩
     case measure=>rw [HP.o,hc.o];omega
   ·obtain⟨d1,d2⟩:=t0a s i hlt (by omega);have d3:=decode_high s i hlt (by have:=get_bt s i hlt;omega);have d4:=decode_le s i;obtain⟨r,n,hf⟩:∃r n,Utf8.decode s i=(r,n):=⟨_,_,rfl⟩;rw [hf]at h6 h4 d1 d2 d3 d4;simp only at h6 h4 d1 d2 d3 d4;have h5:Hid (∀W,Calls Tryz.prog 161 #[.string sl0,.int .i32 (r:Int)] W fun e w'=>e= .returned (.int .i64 (-1))∧Below W.heap.size W w'):=fun W=>o0n (r:Int) (by omega) (by omega) W
    have HN:Hid (∀j,j <i+n→bt s j≠0∧bt s j≠47):=fun j hj=>by
     by_cases e:j <i
     ·exact hR.2.2 j e
     ·have:=d2 j (by omega) hj;exact⟨by omega,by omega⟩
    have HP:Hid (wq.iterPos w.heap.size=i):=by simp [Hid,World.iterPos,HR.o.2.1]
    have hr:Hid (w.heap.size <w2.heap.size):=by
     have:=(h9 0 zl).size
     have h3:w.heap.size <wq.heap.size:=by
      rcases Nat.lt_or_ge w.heap.size wq.heap.size with h'|h'
      ·exact h'
      ·have:=hR.2.1;rw [Array.getElem?_eq_none h']at this;cases this
     show _ <_;omega
    have HD:=h_ d1;have hs:=h_ d3.2;clear hR h9 ha hf d1 d2 d3 d4 hlo hm hp;go_wp2_with(go_at_call 161;refine(h5.o _).mono ?_;rintro e w3 ⟨rfl,hg⟩);have he:Hid (w3.heap[w.heap.size]?=some (.stringIter s (i+n))):=(hg.block _ hr.o).trans h4.o;have hc:Hid (w3.iterPos w.heap.size=i+n):=by simp [Hid,World.iterPos,he.o]
    have ht:=h_ (h7.o.trans (hg.mono h7.o.size));go_roundw
    case rel=>exact⟨i+n,HD.o,ht.o,he.o,HN.o⟩
    case measure=>(rw [HP.o,hc.o];have:=hs.o;omega)
  ·obtain rfl:i=s.size:=by omega
   have h6:=k0n (P:=Tryz.prog) hR.2.1 hlt;have HA:=h_ (w0g hR.2.2);clear hR;go_wp2;go_ret;exact⟨-1,rfl,by rw [HA.o];rfl,HR.o.1⟩
theorem Za:∀w,(zeroValue 236).run Tryz.prog w= .ok (.agg (Array.replicate 256 (.bool false))) w:=fun w=>by
 have h:(Tryz.prog.info? 236).map (fun i=>(i.zero,i.size))=some (some (.agg (Array.replicate 256 (.bool false))),256):=by kernel_rfl
 exact(zero_of_info h).1 w
theorem p0u(s:ByteArray)(h:s.size≤12)(w:World):Calls Tryz.prog 160 #[.string s,.string sl0] w (Lt s w):=by
 by_cases h8:s.size≤8
 ·exact p0t s h8 w
 ·refine(Tryz.strings_IndexAny_long Za s sl0 w (by decide) (by omega) (by omega) (by decide) (fun j b hb=>?_)).mono ?_
  ·match j,hb with
   |0,hb=>simp at hb;subst hb;decide
   |1,hb=>simp at hb;subst hb;decide
  ·rintro e w' ⟨rfl,rfl⟩;exact⟨_,rfl,rfl,(br.alloc ler _).alloc (by simp) _⟩
theorem u0r(s:ByteArray)(h:s.size≤12)(w:World):Calls Tryz.prog 157 #[.string s,.string sl0] w fun e w'=>e= .returned (.bool (Lib.containsAny s.data.toList [47,0]))∧Below w.heap.size w w':=by have HI:=h_ (p0u s h w);unfold Lt at HI;clear h;generalize Lib.containsAny s.data.toList [47,0]=c at*;go_enter Tryz.func157,Tryz.ntmps157;go_wp2_with(go_at_call 160;refine HI.o.mono ?_;rintro e w' ⟨k,rfl,hk,hb⟩);go_ret;exact⟨rfl,hb⟩
theorem q0b(s:ByteArray)(w:World):Calls Tryz.prog 144 #[.string s] w fun e w'=>e= .returned (.int .i64 (je s))∧Below w.heap.size w w':=by
 by_cases h1:s.size=0
 ·have F:=h_ (nk (s:=s) fun h=>by have:=h.1;omega);rw [F.o];obtain rfl:s=⟨#[]⟩:=yh h1;clear h1;go_enter Tryz.func144,Tryz.ntmps144;go_wp2;go_ret;exact⟨rfl,br⟩
 ·have e0:=ls h1;have h5:(s.toList==[])=false:=by have h:=e0;rw [Go.Lib.toList_data ⟨#[]⟩]at h;exact h
  have h0:¬s.toList=[]:=beq_eq_false_iff_ne.1 h5
  have h6:s.toList.isEmpty=false:=by
   cases hl:s.toList with
   |nil=>exact absurd hl h0
   |cons=>rfl
  by_cases h3:s=⟨#[46]⟩
  ·have F:=h_ (nk (s:=s) fun h=>h.2.2.1 h3);rw [F.o];subst h3;clear h1 e0 h5 h0 h6;go_enter Tryz.func144,Tryz.ntmps144;go_wp2;go_ret;exact⟨rfl,br⟩
  ·obtain⟨e1,h7⟩:=Nx h3;by_cases h4:s=⟨#[46,46]⟩
   ·have F:=h_ (nk (s:=s) fun h=>h.2.2.2.1 h4);rw [F.o];subst h4;clear h1 h3 e0 h5 h0 h6 e1 h7;go_enter Tryz.func144,Tryz.ntmps144;go_wp2;go_ret;exact⟨rfl,br⟩
   ·obtain⟨e2,h8⟩:=Nw h4;by_cases h2:12 <s.size
    ·have F:=h_ (nk (s:=s) fun h=>by have:=h.2.1;omega);have i2:12 < (s.size:Int):=by omega
     rw [F.o];clear h1 h2 h3 h4;go_enter Tryz.func144,Tryz.ntmps144;go_wp2;go_ret;exact⟨rfl,br⟩
    ·have i2:¬12 < (s.size:Int):=by omega
     have HC:=h_ (u0r s (by omega) w);cases hc:Lib.containsAny s.data.toList [47,0]with
     |true=>obtain⟨i,hi,hx⟩:=(Lb s).1 hc;have F:=h_ (nk (s:=s) fun h=>by have:=h.2.2.2.2 i hi;rcases hx with hx|hx<;>simp_all);rw [hc]at HC;rw [F.o];clear h1 h2 h3 h4 hc hx;go_enter Tryz.func144,Tryz.ntmps144;go_wp2_with(go_at_call 157;refine HC.o.mono ?_;rintro e w' ⟨rfl,hb⟩);go_ret;exact⟨rfl,hb⟩
     |false=>
      have F:=h_ (Sp (s:=s) ⟨by omega,by omega,h3,h4,fun i hi=>by
    constructor
    ·intro h;rw [Lc hi (.inl h)]at hc;cases hc
    ·intro h;rw [Lc hi (.inr h)]at hc;cases hc⟩)
      rw [hc]at HC;rw [F.o];clear h1 h2 h3 h4 hc;go_enter Tryz.func144,Tryz.ntmps144;go_wp2_with(go_at_call 157;refine HC.o.mono ?_;rintro e w' ⟨rfl,hb⟩);go_ret;exact⟨rfl,hb⟩
theorem qr{w w':World}{n:ByteArray}{k:Int}(hb:Below (w.alloc (.cells #[.string n,.int .i64 k] 99)).heap.size (w.alloc (.cells #[.string n,.int .i64 k] 99)) w'):w'.cell? ⟨w.heap.size,0,none⟩=some (.string n)∧w'.cell? ⟨w.heap.size,1,none⟩=some (.int .i64 k)∧Below w.heap.size w w':=by obtain⟨a,b,_⟩:=Cy hb;exact⟨a,b,(br.alloc ler _).trans (hb.mono (by simp))⟩
theorem s0z(x:ay)(w:World):Calls Tryz.prog 116 #[.agg #[.string x.Name,.int .i64 x.Ino]] w fun e w'=>e= .returned (.int .i64 (gh x))∧Below w.heap.size w w':=by
 obtain⟨wa,h3⟩:∃wa,wa=w.alloc (.cells #[.string x.Name,.int .i64 x.Ino] 99):=⟨_,rfl⟩;have HG:=h_ (q0b x.Name wa);have HB:Hid (∀w',Below wa.heap.size wa w'→w'.cell? ⟨w.heap.size,0,none⟩=some (.string x.Name)∧w'.cell? ⟨w.heap.size,1,none⟩=some (.int .i64 x.Ino)∧Below w.heap.size w w'):=fun w' h=>by rw [h3]at h;exact qr h
 obtain⟨k0,k1,_⟩:=HB.o wa br;have h4:=h_ h3;clear h3;by_cases hn:je x.Name=0
 ·have h1:=Vq (x:=x) hn;have h2:=Vn (x:=x) hn;rw [hn]at HG;by_cases hi:x.Ino <0∨47 <x.Ino
  ·have F:=h_ (h1 hi);rw [F.o];rcases(show x.Ino <0∨(¬x.Ino <0∧48≤x.Ino) by omega)with i1|⟨i1,i2⟩
   all_goals
    clear hi h1 h2 hn;generalize x.Ino=I at*;generalize x.Name=N at*;go_enter Tryz.func116,Tryz.ntmps116;go_wp2_with(go_at_call 144;rw [←h4.o];refine HG.o.mono ?_;rintro e w' ⟨rfl,hb⟩;obtain⟨c0,c1,h0⟩:=HB.o _ hb);go_ret;exact⟨rfl,h0⟩
  ·have F:=h_ (h2 hi);have i1:¬x.Ino <0:=by omega
   have i2:¬48≤x.Ino:=by omega
   rw [F.o];clear hi h1 h2 hn;generalize x.Ino=I at*;generalize x.Name=N at*;go_enter Tryz.func116,Tryz.ntmps116;go_wp2_with(go_at_call 144;rw [←h4.o];refine HG.o.mono ?_;rintro e w' ⟨rfl,hb⟩;obtain⟨c0,c1,h0⟩:=HB.o _ hb);go_ret;exact⟨rfl,h0⟩
 ·have F:=h_ (Vp (x:=x) hn);have he:je x.Name=11:=(Sn x.Name).resolve_left hn;rw [he]at HG;rw [F.o];clear he hn;generalize x.Ino=I at*;generalize x.Name=N at*;go_enter Tryz.func116,Tryz.ntmps116;go_wp2_with(go_at_call 144;rw [←h4.o];refine HG.o.mono ?_;rintro e w' ⟨rfl,hb⟩;obtain⟨c0,c1,h0⟩:=HB.o _ hb);go_ret;exact⟨rfl,h0⟩
theorem g0r(x:ay)(w:World):Calls Tryz.prog 131 #[.agg #[.string x.Name,.int .i64 x.Ino]] w fun e w'=>e= .returned (.int .i64 (gh x))∧Below w.heap.size w w':=by
 obtain⟨wa,h4⟩:∃wa,wa=w.alloc (.cells #[.string x.Name,.int .i64 x.Ino] 99):=⟨_,rfl⟩;have HG:=h_ (f0u x.Name wa);have HB:Hid (∀w',Below wa.heap.size wa w'→w'.cell? ⟨w.heap.size,0,none⟩=some (.string x.Name)∧w'.cell? ⟨w.heap.size,1,none⟩=some (.int .i64 x.Ino)∧Below w.heap.size w w'):=fun w' h=>by rw [h4]at h;exact qr h
 obtain⟨k0,k1,h5⟩:=HB.o wa br;have h3:=h_ h4;clear h4;by_cases hn:je x.Name=0
 ·have h1:=Vq (x:=x) hn;have h2:=Vn (x:=x) hn;rw [hn]at HG;by_cases hi:x.Ino <0∨47 <x.Ino
  ·have F:=h_ (h1 hi);rw [F.o];rcases(show x.Ino <0∨(¬x.Ino <0∧47 <x.Ino) by omega)with i1|⟨i1,i2⟩
   all_goals
    clear hi h1 h2 hn;generalize x.Ino=I at*;generalize x.Name=N at*;go_enter Tryz.func131,Tryz.ntmps131;go_wp2_with(go_at_call 153;rw [←h3.o];refine HG.o.mono ?_;rintro e w' ⟨rfl,h0⟩;rw [h0];clear h0);go_ret;exact⟨rfl,h5⟩
  ·have F:=h_ (h2 hi);have i1:¬x.Ino <0:=by omega
   have i2:¬47 <x.Ino:=by omega
   rw [F.o];clear hi h1 h2 hn;generalize x.Ino=I at*;generalize x.Name=N at*;go_enter Tryz.func131,Tryz.ntmps131;go_wp2_with(go_at_call 153;rw [←h3.o];refine HG.o.mono ?_;rintro e w' ⟨rfl,h0⟩;rw [h0];clear h0);go_ret;exact⟨rfl,h5⟩
 ·have F:=h_ (Vp (x:=x) hn);have he:je x.Name=11:=(Sn x.Name).resolve_left hn;rw [he]at HG;rw [F.o];clear he hn;generalize x.Ino=I at*;generalize x.Name=N at*;go_enter Tryz.func131,Tryz.ntmps131;go_wp2_with(go_at_call 153;rw [←h3.o];refine HG.o.mono ?_;rintro e w' ⟨rfl,h0⟩;rw [h0];clear h0);go_ret;exact⟨rfl,h5⟩
theorem zw{w:World}{B n c:Nat}{A:Option Addr}{l:List ay}(r:ab w B A n c ay.cells 2 l){i:Nat}{p:ay}(h:l[i]?=some p):∃b o,A=some ⟨b,o,none⟩∧b <B∧w.cell? ⟨b,o+i*2,none⟩=some (.string p.Name)∧w.cell? ⟨b,o+i*2+1,none⟩=some (.int .i64 p.Ino):=by obtain⟨b,o,e,hb,hc⟩:=r.at_ i p h;exact⟨b,o,e,hb,hc 0 _ rfl,hc 1 _ rfl⟩
theorem g0u(A:Option Addr)(n c:Nat)(xs:List ay)(w:World)(r:ab w w.heap.size A n c ay.cells 2 xs):Calls Tryz.prog 103 #[.slice A n c] w fun e w'=>e= .returned (.int .i64 (eu xs))∧Below w.heap.size w w':=by
 have hn:=r.len;subst hn;have hd:(xs.length:Int)≤9223372036854775807:=by have h1:=r.le;have h2:=r.top;unfold maxLen at h2;omega
 by_cases hl:24 <xs.length
 ·have F:=h_ (Kd hl);have h7:24 < (xs.length:Int):=by omega
  rw [F.o];go_enter Tryz.func103,Tryz.ntmps103;go_wp2;go_ret;exact⟨rfl,br⟩
 ·have D:=h_ (Ke hl);have h7:¬24 < (xs.length:Int):=by omega
  clear hl;go_enter Tryz.func103,Tryz.ntmps103;go_wp2;go_loopw [3,12] (fun v3 v12 wr=>∃(i:Nat) (last:ByteArray),i≤xs.length∧v12= .int .i64 i∧v3= .string last∧Hid (eu xs=jn last (xs.drop i)∧Below w.heap.size w wr)) (fun _ v12 _=>xs.length- (intOf v12).toNat)
  case atStart=>exact⟨0,⟨#[]⟩,zl,rfl,rfl,D.o,br⟩
  case round=>
   obtain⟨i,last,hi,rfl,rfl,HR⟩:=hrel;obtain⟨wq,rfl⟩:∃z:World,z=wr:=⟨_,rfl⟩;by_cases hlt:i <xs.length
   ·obtain⟨x,e1⟩:∃x,xs[i]?=some x:=⟨_,gE hlt⟩;have h8:(i:Int) < (xs.length:Int):=by omega
    obtain⟨b,o,rfl,ha,k0,k1⟩:=zw (r.below HR.o.2) e1;have HE:=h_ (g0r x (wq.alloc (.cells #[.string x.Name,.int .i64 x.Ino] 99)));have E1:=h_ e1;by_cases hx:gh x=0
    ·rw [hx]at HE;have HX:=h_ hx;have h5:=n0a (a:=x.Name) (b:=last);have h4:∀v,ltS last x.Name=v→(Op.bytesLess x.Name.toList last.toList||x.Name.toList==last.toList)= !v:=fun v h=>by rw [h5,h]
     cases hv:ltS last x.Name with
     |true=>
      have hc:=h4 true hv;have h6:Op.bytesLess x.Name.toList last.toList=false:=by cases h:Op.bytesLess x.Name.toList last.toList;rfl;rw [h]at hc;cases hc
      have he:(x.Name.toList==last.toList)=false:=by rw [h6]at hc;simpa using hc
      have HN:Hid (eu xs=jn x.Name (xs.drop (i+1))):=by show _=_;rw [HR.o.1,Kf e1 hx hv]
      clear e1 hx h5 h4 hv hc;obtain⟨N,I⟩:=x;simp only at*;go_wp2_with(go_at_call 131;refine HE.o.mono ?_;rintro e w' ⟨rfl,hb⟩;obtain⟨c0,c1,h0⟩:=qr hb;have h3:=h_ (HR.o.2.trans (h0.mono HR.o.2.size));clear hb h0);go_roundw
      case rel=>exact⟨i+1,N,by omega,by go_num,rfl,HN.o,h3.o⟩
      case measure=>(simp [intOf];try omega)
     |false=>
      have hc:=h4 false hv;have F:Hid (eu xs=4):=by show _=_;rw [HR.o.1,W6 e1 hx hv]
      clear e1 hx h5 h4 hv;obtain⟨N,I⟩:=x;simp only at*
      rcases(show Op.bytesLess N.toList last.toList=true∨(Op.bytesLess N.toList last.toList=false∧(N.toList==last.toList)=true) by
       cases h:Op.bytesLess N.toList last.toList
       ·right;rw [h]at hc;exact⟨rfl,by simpa using hc⟩
       ·left;rfl)with c1|⟨c1,c2⟩
      all_goals
       clear hc;go_wp2_with(go_at_call 131;refine HE.o.mono ?_;rintro e w' ⟨rfl,hb⟩;obtain⟨d0,d1,h0⟩:=qr hb;have h3:=h_ (HR.o.2.trans (h0.mono HR.o.2.size));clear hb h0);go_ret;exact⟨by rw [F.o];rfl,h3.o⟩
    ·have F:Hid (eu xs=gh x):=by show _=_;rw [HR.o.1,Wb e1 hx]
     have h9:(gh x !=0)=true:=bN hx;clear e1 hx;generalize gh x=E at*;obtain⟨N,I⟩:=x;simp only at*;go_wp2_with(go_at_call 131;refine HE.o.mono ?_;rintro e w' ⟨rfl,hb⟩;obtain⟨d0,d1,h0⟩:=qr hb;have h3:=h_ (HR.o.2.trans (h0.mono HR.o.2.size));clear hb h0);go_ret;exact⟨by rw [F.o];rfl,h3.o⟩
   ·obtain rfl:i=xs.length:=by omega
    have F:Hid (eu xs=0):=by show _=_;rw [HR.o.1,W9]
    go_wp2;go_ret;exact⟨by rw [F.o];rfl,HR.o.2⟩
theorem t0b(A:Option Addr)(n c:Nat)(xs:List ay)(w:World)(r:ab w w.heap.size A n c ay.cells 2 xs):Calls Tryz.prog 90 #[.slice A n c] w fun e w'=>e= .returned (.int .i64 (eu xs))∧Below w.heap.size w w':=by
 have hn:=r.len;subst hn;have hd:(xs.length:Int)≤9223372036854775807:=by have h1:=r.le;have h2:=r.top;unfold maxLen at h2;omega
 by_cases hl:24 <xs.length
 ·have F:=h_ (Kd hl);have h7:24 < (xs.length:Int):=by omega
  rw [F.o];go_enter Tryz.func90,Tryz.ntmps90;go_wp2;go_ret;exact⟨rfl,br⟩
 ·have D:=h_ (Ke hl);have h7:¬24 < (xs.length:Int):=by omega
  clear hl;go_enter Tryz.func90,Tryz.ntmps90;go_wp2;go_loopw [11] (fun v11 wr=>∃(i:Nat),i≤xs.length∧v11= .int .i64 i∧Hid (eu xs=jn (sv xs i) (xs.drop i)∧Below w.heap.size w wr)) (fun v11 _=>xs.length- (intOf v11).toNat)
  case atStart=>exact⟨0,zl,rfl,D.o,br⟩
  case round=>
   obtain⟨i,hi,rfl,HR⟩:=hrel;obtain⟨wq,rfl⟩:∃z:World,z=wr:=⟨_,rfl⟩;by_cases hlt:i <xs.length
   ·obtain⟨x,e1⟩:∃x,xs[i]?=some x:=⟨_,gE hlt⟩;have h8:(i:Int) < (xs.length:Int):=by omega
    obtain⟨b,o,rfl,hf,k0,k1⟩:=zw (r.below HR.o.2) e1;have HE:=h_ (s0z x (wq.alloc (.cells #[.string x.Name,.int .i64 x.Ino] 99)));have E1:=h_ e1;by_cases hx:gh x=0
    ·rw [hx]at HE;have HX:=h_ hx;rcases(show i=0∨∃j,i=j+1 from by cases i<;>simp)with rfl|⟨j,rfl⟩
     ·have hv:ltS (sv xs 0) x.Name=true:=n0b (by have:=K4 hx;omega);have HN:Hid (eu xs=jn (sv xs 1) (xs.drop 1)):=by show _=_;rw [HR.o.1,Kf e1 hx hv,Iy e1]
      clear e1 hx hv;simp only [Nat.zero_mul,Nat.add_zero]at k0 k1;obtain⟨N,I⟩:=x;simp only at*;go_upto_region 9 with(go_at_call 116;refine HE.o.mono ?_;rintro e w' ⟨rfl,hb⟩;obtain⟨c0,c1,h0⟩:=qr hb;have h3:=h_ (HR.o.2.trans (h0.mono HR.o.2.size));clear hb h0);go_quiet(fail);have h4:=h_ (below_drewN h3.o nq);go_wp2;go_roundw
      case rel=>exact⟨1,by omega,by go_num,HN.o,h4.o⟩
      case measure=>(simp [intOf];try omega)
     ·obtain⟨y,e2⟩:∃y,xs[j]?=some y:=⟨_,gE (by omega)⟩;have h5:sv xs (j+1)=y.Name:=Iy e2;have E2:=h_ e2;have hh:(0:Int) < ((j+1:Nat):Int):=by omega
      have hg:((j+1:Nat):Int)-1=(j:Int):=by omega
      have h9:(j:Int) < (xs.length:Int):=by omega
      have hc:(xs.length:Int)≤24:=by omega
      cases hv:ltS y.Name x.Name with
      |true=>
       have HN:Hid (eu xs=jn (sv xs (j+1+1)) (xs.drop (j+1+1))):=by show _=_;rw [HR.o.1,Kf e1 hx (by rw [h5];exact hv),Iy e1]
       unfold ltS at hv;clear e1 hx h5 e2;obtain⟨N,I⟩:=x;obtain⟨N',I'⟩:=y;simp only at*;go_upto_region 9 with(go_at_call 116;refine HE.o.mono ?_;rintro e w' ⟨rfl,hb⟩;obtain⟨c0,c1,h0⟩:=qr hb;have h3:=h_ (HR.o.2.trans (h0.mono HR.o.2.size));obtain⟨b',o',he,h6,k2,k3⟩:=zw (r.below h3.o) E2.o;cases he;clear hb h0);go_quiet(fail);have h4:=h_ (below_drewN h3.o nq);go_wp2;go_roundw
       case rel=>exact⟨j+1+1,by omega,by go_num,HN.o,h4.o⟩
       case measure=>(simp [intOf];try omega)
      |false=>
       have F:Hid (eu xs=4):=by show _=_;rw [HR.o.1,W6 e1 hx (by rw [h5];exact hv)]
       unfold ltS at hv;clear e1 hx h5 e2;obtain⟨N,I⟩:=x;obtain⟨N',I'⟩:=y;simp only at*;go_upto_region 9 with(go_at_call 116;refine HE.o.mono ?_;rintro e w' ⟨rfl,hb⟩;obtain⟨c0,c1,h0⟩:=qr hb;have h3:=h_ (HR.o.2.trans (h0.mono HR.o.2.size));obtain⟨b',o',he,h6,k2,k3⟩:=zw (r.below h3.o) E2.o;cases he;clear hb h0);go_quiet(fail);have h4:=h_ (below_drewN h3.o nq);go_wp2;go_ret;exact⟨by rw [F.o];rfl,h4.o⟩
    ·have F:Hid (eu xs=gh x):=by show _=_;rw [HR.o.1,Wb e1 hx]
     have ha:(gh x !=0)=true:=bN hx;clear e1 hx;generalize gh x=E at*;obtain⟨N,I⟩:=x;simp only at*;go_wp2_with(go_at_call 116;refine HE.o.mono ?_;rintro e w' ⟨rfl,hb⟩;obtain⟨d0,d1,h0⟩:=qr hb;have h3:=h_ (HR.o.2.trans (h0.mono HR.o.2.size));clear hb h0);go_ret;exact⟨by rw [F.o];rfl,h3.o⟩
   ·obtain rfl:i=xs.length:=by omega
    have F:Hid (eu xs=0):=by show _=_;rw [HR.o.1,W9]
    go_wp2;go_ret;exact⟨by rw [F.o];rfl,HR.o.2⟩
def Lw(xs:List ay)(w:World)(e:Ending)(w':World):Prop:=e= .returned (.tuple #[.string (E7 xs),.int .i64 (eu xs)])∧Below w.heap.size w w'
theorem e0g(A:Option Addr)(n c:Nat)(xs:List ay)(w:World)(r:ab w w.heap.size A n c ay.cells 2 xs):Calls Tryz.prog 74 #[.slice A n c] w (Lw xs w):=by
 have hn:=r.len;subst hn;have hv:(xs.length:Int)≤9223372036854775807:=by have h1:=r.le;have h2:=r.top;unfold maxLen at h2;omega
 have HC:=h_ (g0u A xs.length c xs w r);unfold Lw;by_cases hd:eu xs=0
 ·obtain⟨hl,h6⟩:=s0u hd;have F:=h_ (W5 hd);have h9:∀x∈xs,x.Name.size≤12:=fun x hx=>(K4 (h6 x hx)).2
  have HA:=h_ h6;have HT:=h_ (fun i=>s0w (i:=i) h9 hl);rw [hd]at HC⊢;rw [F.o];have hs:(xs.length:Int)≤24:=by omega
  have hq:Hid (j7 (xs.take xs.length)=j7 xs):=by rw [List.take_length];simp [Hid]
  clear hd h6 h9;go_enter Tryz.func74,Tryz.ntmps74;go_wp2_with(go_at_call 103;refine HC.o.mono ?_;rintro e w1 ⟨rfl,h3⟩;have hh:=h_ h3;clear h3);go_loopw [5,15] (fun v5 v15 wr=>∃i:Nat,i≤xs.length∧v15= .int .i64 i∧v5= .string (mkS (j7 (xs.take i)))∧Hid (Below w.heap.size w wr)) (fun _ v15 _=>xs.length- (intOf v15).toNat)
  case atStart=>exact⟨0,zl,rfl,rfl,hh.o⟩
  case round=>
   obtain⟨i,hi,rfl,rfl,HR⟩:=hrel;obtain⟨wq,rfl⟩:∃z:World,z=wr:=⟨_,rfl⟩;by_cases hlt:i <xs.length
   ·obtain⟨x,e1⟩:∃x,xs[i]?=some x:=⟨_,gE hlt⟩;have hy:(i:Int) < (xs.length:Int):=by omega
    have HS:=h_ (s0x e1);have hx:=HA.o x (List.mem_of_getElem? e1);obtain⟨z0,z1⟩:=K4 hx;obtain⟨_,z2,z3⟩:=K3 hx;obtain⟨b,o,rfl,hA,k0,k1⟩:=zw (r.below HR.o) e1;have hj:=h_ (HT.o i);obtain⟨N,I⟩:=x;simp only at z0 z1 z2 z3 k0 k1;obtain⟨k,rfl⟩:∃k:Nat,I=(k:Int):=⟨I.toNat,by omega⟩;obtain⟨wA,h4⟩:∃wA,wA=wq.alloc (.cells #[.string N,.int .i64 k] 99):=⟨_,rfl⟩;have h7:Below wq.heap.size wq wA:=by rw [h4];exact br.alloc ler _
    have h0:wA.heap[wq.heap.size]?=some (.cells #[.string N,.int .i64 k] 99 (0,0)):=by rw [h4];exact A_ wq _
    have hp:=h_ h4;have ha:=h_ (HR.o.trans (h7.mono HR.o.size));have hf:=h_ h0;have hr:(N.size:Int)≤12:=by omega
    have hz:(k:Int)≤47:=by omega
    have hc:Hid (∀(m:Nat) W,m <256→Calls Tryz.prog 104 #[.int .u64 m,.int .i64 1] W fun e w'=>e= .returned (.string (mkS [UInt8.ofNat m]))∧Below W.heap.size W w'):=fun m W hm=>by have:=ky (m:Int) 1 W (by omega) (by omega) (by decide) (by decide);rw [s0y hm]at this;exact this
    have q1:=Ad (P:=Tryz.prog) [UInt8.ofNat N.size] N (by simp;omega);have q2:=Ad (P:=Tryz.prog) ([UInt8.ofNat N.size]++bl N) (mkS [UInt8.ofNat k]) (by rw [List.length_append,m9,vq];simp;omega);have q3:=Ad (P:=Tryz.prog) (j7 (xs.take i)) (mkS (([UInt8.ofNat N.size]++bl N)++[UInt8.ofNat k])) (by have:=hj.o;rw [vq,List.length_append,List.length_append,m9];simp;omega);rw [Kz]at q2 q3
    have HE:Hid (j7 (xs.take i)++([UInt8.ofNat N.size]++bl N++[UInt8.ofNat k])=j7 (xs.take (i+1))):=by show _=_;rw [HS.o];unfold xc;simp
    rw [HE.o]at q3;obtain⟨bx,h5⟩:∃bx,bx=wq.heap.size:=⟨_,rfl⟩;have hu:IntKind.u64.wrap (N.size:Int)=(N.size:Int):=u64_nonneg (by omega) (by omega);have hw:IntKind.u64.wrap (k:Int)=(k:Int):=u64_nonneg (by omega) (by omega);rw [←h5]at h0;have p0:=aj h0 0;have p1:=aj h0 1;have h8:=ag h0;have he:=h_ h5;have H1:=h_ z1;have H3:=h_ z3;clear e1 hx z0 z1 z2 z3 h4 h7 h0 hf HE;generalize hO2:mkS (j7 (xs.take (i+1)))=OUT2 at*;have hk:=h_ hO2;clear hO2;generalize mkS (j7 (xs.take i))=OUT at*;generalize hS1:mkS ([UInt8.ofNat N.size]++bl N++[UInt8.ofNat k])=S3 at*;generalize hS2:mkS ([UInt8.ofNat N.size]++bl N)=S12 at*;clear hS1 hS2;go_upto_region 8 with fail;rw [←hp.o,←he.o];clear h5;have hS:wA.cell? ⟨bx,0,none⟩=some (.string N)∧wA.cell? ⟨bx,1,none⟩=some (.int .i64 k)∧wA.heap.size≤wA.heap.size∧Below w.heap.size w wA:=⟨p0,p1,Nat.le_refl _,ha.o⟩
    go_region_held3 (fun W=>W.cell? ⟨bx,0,none⟩=some (.string N)∧W.cell? ⟨bx,1,none⟩=some (.int .i64 k)∧wA.heap.size≤W.heap.size∧Below w.heap.size w W)
     (first|assumption|exact Tt (by assumption)|exact Tu h8 h8 (by assumption) (by assumption))
     ((go_at_call 104;refine(hc.o _ _ (by have:=H1.o;have:=H3.o;omega)).mono ?_;rintro e w' ⟨rfl,hb⟩))
    all_goals
     rename_i hHeld;have hg:=J2 hHeld;go_wp2;go_roundw
     case rel=>exact⟨i+1,by omega,by go_num,by rw [hk.o],hg⟩
     case measure=>(simp [intOf];try omega)
   ·obtain rfl:i=xs.length:=by omega
    rw [hq.o];go_wp2;go_ret2;exact⟨rfl,HR.o⟩
 ·have F:=h_ (s0v hd);have ht:(eu xs !=0)=true:=bN hd;rw [F.o];clear hd F;generalize eu xs=E at*;go_enter Tryz.func74,Tryz.ntmps74;go_wp2_with(go_at_call 103;refine HC.o.mono ?_;rintro e w1 ⟨rfl,h3⟩);go_ret2;exact⟨rfl,h3⟩
end
end Go.Proofs.YtcldpfhpkbeaiadGreat
