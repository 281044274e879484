/- A part of the proof of FsMounts. No condition of ours. -/
import Derived.Test.YtcldpfhpkbeaiadGreatFsMounts01
set_option maxRecDepth 20000
set_option maxHeartbeats 400000
namespace Go.Proofs.YtcldpfhpkbeaiadGreat
section
open Go.RowKit
def bw(s:ByteArray)(k:Nat):W32:=BitVec.ofInt 32 (PlainAid.bt s k)
theorem Ec(s:ByteArray)(k:Nat):(bw s k).toNat <256:=by have h0:=PlainAid.bt_nonneg s k;have h1:=PlainAid.bt_le s k;unfold bw;obtain⟨n,hn⟩:=Int.eq_ofNat_of_zero_le h0;rw [hn]at h1⊢;rw [BitVec.ofInt_natCast,BitVec.toNat_ofNat];omega
theorem Kr(s:ByteArray)(k:Nat):PlainAid.bt s k=v32 (bw s k):=by have h0:=PlainAid.bt_nonneg s k;have h1:=PlainAid.bt_le s k;unfold bw v32;obtain⟨n,hn⟩:=Int.eq_ofNat_of_zero_le h0;rw [hn]at h1⊢;rw [BitVec.ofInt_natCast,BitVec.toNat_ofNat];omega
def vp(c:W32)(s:ByteArray):W32:=t0s (bw s) c s.size
theorem xf(c:W32):bits .xor .u32 IntKind.u32.max (v32 c)=v32 (~~~ c):=by have h:=ub (BitVec.allOnes 32) c;rw [show v32 (BitVec.allOnes 32)=IntKind.u32.max from rfl]at h;rw [h,BitVec.allOnes_xor]
theorem G6:IntKind.u32.signed=false:=rfl
theorem c0m(c:W32)(s:ByteArray)(w:World)(hs:s.size≤9223372036854775807):Calls Tryz.prog 142 #[.int .u32 (v32 c),.string s] w fun e w'=>e= .returned (.int .u32 (v32 (vp c s)))∧w=w':=by
 have h1:=xf c;have h0:=G6;have h6:=PlainAid.get_bt s;go_enter Tryz.func142,Tryz.ntmps142;go_wp2;go_loop [0,10] (fun v0 v10=>∃(k:Nat) (d:W32),k≤s.size∧v10= .int .i64 k∧v0= .int .u32 (v32 d)∧Hid (d=Ac (bw s) (~~~ c) k)) (fun _ v10=>s.size- (intOf v10).toNat)
 case atStart=>exact⟨0,~~~ c,zl,rfl,rfl,rfl⟩
 case round=>
  obtain⟨k,d,hk,rfl,rfl,hd⟩:=hrel;have h5:=md d;by_cases hlt:k <s.size
  ·have hx:=ub d (bw s k);rw [←Kr]at hx;have h4:=PlainAid.bt_nonneg s k;have h2:=PlainAid.bt_le s k;go_wp2;go_loop [0,19] (fun v0 v19=>∃(j:Nat) (e:W32),j≤8∧v19= .int .i64 j∧v0= .int .u32 (v32 e)∧Hid (e=jp j (d^^^bw s k))) (fun _ v19=>8- (intOf v19).toNat)
   case atStart=>exact⟨0,d^^^bw s k,by omega,rfl,rfl,rfl⟩
   case round=>
    obtain⟨j,e,hj,rfl,rfl,he⟩:=hrel;by_cases hj8:(j:Int) <8
    ·go_wp2_with(go_at_call 156;refine(O7 _ _).mono ?_;rintro e w' ⟨rfl,rfl⟩);go_round
     case rel=>exact⟨j+1,_,by omega,by go_num,rfl,by simp only [Hid];rw [he.o];rfl⟩
     case measure=>simp [intOf];omega
    ·go_wp2;go_round
     case rel=>exact⟨k+1,e,by omega,by go_num,rfl,by simp only [Hid];rw [he.o,hd.o,show j=8 by omega];rfl⟩
     case measure=>simp [intOf];omega
  ·have h3:=xf d;go_wp2;go_ret;refine⟨ax ?_,rfl⟩;rw [hd.o,show k=s.size by omega];rfl
end
section
open Go.RowKit Go.PlainAid
def dh(k n:Int)(z:Nat):Int:=if(k≠1∧k≠2)∨n <0∨2147483647 <n then 1 else if 1000 <z then 2 else 0
theorem kv{k n:Int}{z:Nat}(h:(k≠1∧k≠2)∨n <0∨2147483647 <n):dh k n z=1:=if_pos h
theorem up{k n:Int}{z:Nat}(h:¬((k≠1∧k≠2)∨n <0∨2147483647 <n))(h2:1000 <z):dh k n z=2:=by unfold dh;rw [if_neg h,if_pos h2]
theorem ym{k n:Int}{z:Nat}(h:¬((k≠1∧k≠2)∨n <0∨2147483647 <n))(h2:¬1000 <z):dh k n z=0:=by unfold dh;rw [if_neg h,if_neg h2]
theorem Om{k n:Int}{z:Nat}(h:dh k n z=0):(k=1∨k=2)∧0≤n∧n≤2147483647∧z≤1000:=by
 unfold dh at h;split at h
 ·cases h
 ·split at h
  ·cases h
  ·omega
def ew(k n:Int)(t:ByteArray):List Int:=cb 1 k++cb 4 n++cb 2 t.size++btL t t.size
theorem Gf(k n:Int)(t:ByteArray):(ew k n t).length=7+t.size:=by unfold ew;simp only [List.length_append,l8,Ed]
def fj(s:ByteArray):Int:=v32 (vp 0#32 s)
theorem ye(s:ByteArray):0≤fj s∧fj s≤4294967295:=md _
def gv(c:Int):List Int:=[c%256,c/256%256,c/65536%256,c/16777216%256]
theorem V9(c:Int):(cb 4 c).reverse=gv c:=by simp only [cb,gv];simp only [Int.reducePow,List.reverse_cons,List.reverse_nil,List.nil_append,List.cons_append,List.cons.injEq,and_true];omega
def ij(k n:Int)(t:ByteArray):List Int:=if dh k n t.size=0 then ew k n t++gv (fj (strOfNums (ew k n t)))else []
theorem Bs{k n:Int}{t:ByteArray}(h:dh k n t.size=0):ij k n t=ew k n t++gv (fj (strOfNums (ew k n t))):=if_pos h
theorem r8{k n:Int}{t:ByteArray}(h:dh k n t.size≠0):ij k n t=[]:=if_neg h
theorem tc:(Tryz.prog.info? 5).map (fun i=>(i.zero,i.size,i.bytes))=some (some (.int .u8 0),1,1):=by kernel_rfl
def fh(s:ByteArray):Int:=if 8 <s.size then 0 else beF (bt s) s.size
def kg(s:ByteArray):Int:=if 8 <s.size then 2 else 0
theorem N7{s:ByteArray}(h:8 <s.size):fh s=0∧kg s=2:=by simp [fh,kg,h]
theorem pv{s:ByteArray}(h:¬8 <s.size):fh s=beF (bt s) s.size∧kg s=0:=by simp [fh,kg,h]
theorem G1(s:ByteArray)(w:World):Calls Tryz.prog 49 #[.string s] w fun e w'=>e= .returned (.tuple #[.int .u64 (fh s),.int .i64 (kg s)])∧w=w':=by
 by_cases hl:8 <s.size
 ·have F:=h_ (N7 hl);go_enter Tryz.func49,Tryz.ntmps49;go_wp2;go_ret2;exact⟨oj F.o.1.symm F.o.2.symm,rfl⟩
 ·have F:=h_ (pv hl);have h2:=get_bt s;go_enter Tryz.func49,Tryz.ntmps49;go_wp2;go_loop [4,11] (fun v4 v11=>∃(k:Nat) (v:Int),k≤s.size∧Hid (v=beF (bt s) k)∧v11= .int .i64 k∧v4= .int .u64 v) (fun _ v11=>s.size- (intOf v11).toNat)
  case atStart=>exact⟨0,0,zl,rfl,rfl,rfl⟩
  case round=>
   obtain⟨k,v,hk,hv,rfl,rfl⟩:=hrel;by_cases hlt:k <s.size
   ·have H:=h_ (v0y (bt s) (bt_nonneg s) (bt_le s) k v hv.o (by omega));have h1:=bt_nonneg s k;have h0:=bt_le s k;go_wp2;go_round
    case rel=>exact⟨k+1,_,by omega,rfl,by go_num,lw H.o⟩
    case measure=>simp [intOf];omega
   ·go_wp2;go_ret2;exact⟨oj (by rw [F.o.1,hv.o,show k=s.size by omega]) F.o.2.symm,rfl⟩
theorem G0(s:ByteArray)(w:World):Calls Tryz.prog 97 #[.string s] w fun e w'=>e= .returned (.tuple #[.int .u64 (fh s),.int .i64 (kg s)])∧w=w':=by
 by_cases hl:8 <s.size
 ·have F:=h_ (N7 hl);go_enter Tryz.func97,Tryz.ntmps97;go_wp2;go_ret2;exact⟨oj F.o.1.symm F.o.2.symm,rfl⟩
 ·have F:=h_ (pv hl);have h7:=get_bt s;go_enter Tryz.func97,Tryz.ntmps97;go_wp2;go_loop [4,5,6] (fun v4 v5 v6=>∃i n h0:Int,-1≤i∧i <s.size∧0≤n∧Hid (n <256^(s.size- (i+1).toNat))∧Hid (beF (bt s) (i+1).toNat*256^(s.size- (i+1).toNat)+n=beF (bt s) s.size)∧Hid (h0=256^(s.size- (i+1).toNat)%18446744073709551616)∧v6= .int .i64 i∧v4= .int .u64 n∧v5= .int .u64 h0) (fun _ _ v6=>(intOf v6+1).toNat)
  case atStart=>
   refine⟨(s.size:Int)-1,0,1,by omega,by omega,by omega,?_,?_,?_,rfl,rfl,rfl⟩
   all_goals simp only [Hid]
   all_goals rw [show((s.size:Int)-1+1).toNat=s.size by omega]
   all_goals simp
  case round=>
   obtain⟨i,n,h0,h3,h5,h2,h1,hT,hw,rfl,rfl,rfl⟩:=hrel;by_cases hi:0≤i
   ·have H:=h_ (Zp (bt s) (bt_nonneg s) (bt_le s) (beF (bt s) s.size) n h0 i.toNat (s.size- (i+1).toNat) (by omega) hw.o h2 h1.o (by rw [show i.toNat+1=(i+1).toNat by omega];exact hT.o));have h6:=bt_nonneg s i.toNat;have h4:=bt_le s i.toNat;go_wp2;go_round
    case rel=>
     obtain⟨q1,q2,q3,q4,q5⟩:=H.o;have e:s.size- (i-1+1).toNat=s.size- (i+1).toNat+1:=by omega
     have e2:(i-1+1).toNat=i.toNat:=by omega
     exact⟨i-1,_,_,by omega,by omega,q3,by simp only [Hid];rw [e];exact q4,by simp only [Hid];rw [e,e2];exact q2,by simp only [Hid];rw [e],by go_num,lw q1,lw q5⟩
    case measure=>simp [intOf];omega
   ·go_wp2;go_ret2;exact⟨oj (by rw [F.o.1,←hT.o,show i= -1 by omega];simp [beF]) F.o.2.symm,rfl⟩
theorem wy(n a:Int)(w:World)(h0:0≤n)(h1:n≤18446744073709551615)(ha0: -9223372036854775808≤a)(ha1:a≤9223372036854775807):Calls Tryz.prog 59 #[.int .u64 n,.int .i64 a] w fun e w'=>e= .returned (.string (strOfNums (ir a n)))∧Below w.heap.size w w':=by
 by_cases hin:1≤a∧a≤8
 ·obtain⟨W,rfl⟩:=Int.eq_ofNat_of_zero_le (show 0≤a by omega);have F:Hid (ir (W:Int) n=cb W n):=by simp only [Hid,ir];rw [if_pos hin];simp
  have he:1≤W:=by omega
  have hn:W≤8:=by omega
  obtain⟨i0,hi,h7,h6,h9⟩:=info_parts tc;go_enter Tryz.func59,Tryz.ntmps59;go_wp2_with(at_make;refine wpList_make_full _ rfl _ _ _ rfl w.heap.size 5 i0 _ 1 Tryz.underlying159 hi h7 h6 _ _ _ _ W rfl rfl rfl rfl ?_ ?_ ler ?_;rw [h9];omega;unfold maxLen;omega;intro w1 h2 hg)
  have h8:w1.ownsRow w.heap.size 5 1 (.slice (some ⟨w.heap.size,0,none⟩) W W) W ((List.replicate W (0:Int)).map (Value.int .u8)):=by
   have e:(madeCells (Value.int .u8 0).cells (W*1)).toList=(List.replicate W (0:Int)).map (Value.int .u8):=by rw [Nat.mul_one,List.map_replicate];exact toList_madeCells_one _ _
   rw [←e];exact h2
  have ha:Below w.heap.size w w1:=br.grown hg ler (by simp);clear h2 hg;go_loopw [0,6] (fun v0 v6 wr=>∃(i m:Int) (xs:List Int),-1≤i∧i <W∧0≤m∧m≤18446744073709551615∧Hid (m=n/256^(W- (i+1).toNat))∧Hid (xs=List.replicate (i+1).toNat 0++cb (W- (i+1).toNat) n)∧v6= .int .i64 i∧v0= .int .u64 m∧wr.ownsRow w.heap.size 5 1 (.slice (some ⟨w.heap.size,0,none⟩) W W) W (xs.map (Value.int .u8))∧Below w.heap.size w wr) (fun _ v6 _=>(intOf v6+1).toNat)
  case atStart=>
   refine⟨(W:Int)-1,n,List.replicate W 0,by omega,by omega,h0,h1,?_,?_,rfl,rfl,h8,ha⟩
   all_goals simp only [Hid]
   all_goals rw [show((W:Int)-1+1).toNat=W by omega]
   all_goals simp [cb]
  case round=>
   obtain⟨i,m,xs,hh,hk,hd,hp,hm,h3,rfl,rfl,h2,hb⟩:=hrel;have h5:xs.length=W:=by have:=h2.1;simpa using this
   by_cases hi:0≤i
   ·have HL:=h_ h5;have hj:i.toNat <W:=by omega
    obtain⟨h4,hc⟩:∃h4:Int,wr.cell? ⟨w.heap.size,i.toNat,none⟩=some (.int .u8 h4):=by refine⟨xs[i.toNat]'(by omega),?_⟩;rw [h2.cellAt i.toNat (by omega)];simp [gE (show i.toNat <xs.length by omega)]
    have hf:=h2.frozenAt i.toNat;clear h5;go_wp2;go_roundw
    case rel=>
     have e:W- (i-1+1).toNat=W- (i+1).toNat+1:=by omega
     have e2:(i-1+1).toNat=i.toNat:=by omega
     have e3:(i+1).toNat=i.toNat+1:=by omega
     refine⟨i-1,m/256,xs.set i.toNat (m%256),by omega,by omega,by omega,by omega,?_,?_,by go_num,by go_num,?_,hb.setCell ler _⟩
     ·simp only [Hid];rw [e,←Ob,←hm.o]
     ·simp only [Hid];rw [e,e2,h3.o,e3,r0b,hm.o,e3];rfl
     ·have:=h2.stored i.toNat (.int .u8 (m%256));rw [List.map_set];exact this.1
    case measure=>simp [intOf];omega
   ·go_wp2_with(refine Ma rfl rfl Tryz.underlying159 Tryz.underlying5 Tryz.underlying9 h2 rfl ?_);go_ret;exact⟨sq (by rw [F.o,h3.o,show i= -1 by omega];simp),hb⟩
 ·have F:Hid (ir a n=[]):=by simp only [Hid,ir];rw [if_neg hin]
  rcases(show a <1∨8 <a by omega)with h|h
  all_goals
   go_enter Tryz.func59,Tryz.ntmps59;go_wp2;go_ret;exact⟨sq (by rw [F.o];rfl),br⟩
theorem ky(n a:Int)(w:World)(h0:0≤n)(h1:n≤18446744073709551615)(ha0: -9223372036854775808≤a)(ha1:a≤9223372036854775807):Calls Tryz.prog 104 #[.int .u64 n,.int .i64 a] w fun e w'=>e= .returned (.string (strOfNums (ir a n)))∧Below w.heap.size w w':=by
 by_cases hin:1≤a∧a≤8
 ·obtain⟨W,rfl⟩:=Int.eq_ofNat_of_zero_le (show 0≤a by omega);have F:Hid (ir (W:Int) n=cb W n):=by simp only [Hid,ir];rw [if_pos hin];simp
  have h6:1≤W:=by omega
  have h8:W≤8:=by omega
  go_enter Tryz.func104,Tryz.ntmps104;go_wp2;go_loopw [0,5,13] (fun v0 v5 v13 wr=>∃(k:Nat) (m:Int) (xs:List Int),k≤W∧0≤m∧m≤18446744073709551615∧Hid (m=n/256^k)∧Hid (xs=cb k n)∧v13= .int .i64 k∧v0= .int .u64 m∧v5= .string (strOfNums xs)∧Below w.heap.size w wr) (fun _ _ v13 _=>W- (intOf v13).toNat)
  case atStart=>exact⟨0,n,[],zl,h0,h1,by simp [Hid],rfl,rfl,rfl,rfl,br⟩
  case round=>
   obtain⟨k,m,xs,hk,h5,h9,hm,h2,rfl,rfl,rfl,hb⟩:=hrel;have h3:=hb.size;by_cases hlt:k <W
   ·have h4:=uq (P:=Tryz.prog) Tryz.underlying159 Tryz.underlying5 Tryz.underlying9 (m%256);have h7:=fq (P:=Tryz.prog) [m%256] xs (by rw [h2.o,l8];simp;omega);go_wp2;go_roundw
    case rel=>exact⟨k+1,m/256,m%256::xs,by omega,by omega,by omega,by simp only [Hid];rw [←Ob,←hm.o],by simp only [Hid,cb];rw [←hm.o,←h2.o],by go_num,by go_num,rfl,hb.alloc h3 _⟩
    case measure=>simp [intOf];omega
   ·go_wp2;go_ret;exact⟨sq (by rw [F.o,h2.o,show k=W by omega]),hb⟩
 ·have F:Hid (ir a n=[]):=by simp only [Hid,ir];rw [if_neg hin]
  rcases(show a <1∨8 <a by omega)with h|h
  all_goals
   go_enter Tryz.func104,Tryz.ntmps104;go_wp2;go_ret;exact⟨sq (by rw [F.o];rfl),br⟩
theorem b0w(a b:List Int):strOfNums (a++b)=strOfNums a++strOfNums b:=by apply ByteArray.ext;simp [strOfNums,ByteArray.data_append]
theorem b0v(s:ByteArray)(k:Nat)(hk:k≤s.size):strOfNums (btL s k)=s.extract 0 k:=by
 have h:=Bj s
 have e:btL s k=(btL s s.size).take k:=by simp [btL,←List.map_take,List.take_range,Nat.min_eq_left hk]
 rw [e];have:=Bk (btL s s.size) 0 k;rw [List.drop_zero,Nat.sub_zero,h]at this;exact this.symm
theorem r0u(s:ByteArray)(k:Nat)(_:k≤s.size):s.extract 0 k++s.extract k s.size=s:=by apply ByteArray.ext;simp only [ByteArray.data_append,ByteArray.data_extract];have:s.data.size=s.size:=rfl;apply Array.ext';simp only [Array.toList_append,Array.toList_extract,List.extract_eq_take_drop,List.drop_zero,Nat.sub_zero];rw [List.take_of_length_le (l:=List.drop k _) (by simp [this])];exact List.take_append_drop k _
theorem Xr{L:List Int}{i:Nat}{x:Int}(h:L[i]?=some x)(h0:0≤x)(h1:x≤255):bt (strOfNums L) i=x:=by
 have hi:i <L.length:=(gS.1 h).1;have hx:L[i]=x:=by rw [gE hi]at h;injection h
 unfold bt;rw [dif_pos (by rw [strOfNums_size];exact hi)]
 have:(strOfNums L)[i]'(by rw [strOfNums_size];exact hi)=UInt8.ofNat L[i].toNat:=by simp [strOfNums,ByteArray.getElem_eq_getElem_data]
 rw [this,hx];simp;omega
theorem u0v(s:ByteArray)(k m:Nat)(h:k+m≤s.size):btL s k++btL (s.extract k (k+m)) m=btL s (k+m):=by unfold btL;rw [List.range_add,List.map_append,List.map_map];congr 1;apply List.map_congr_left;intro i hi;have:=List.mem_range.1 hi;rw [l9 s k (k+m) i (by omega) (by omega)];rfl
def oK(s:ByteArray):Int:=bt s 0
def oN(s:ByteArray):Int:=beF (fun i=>bt s (1+i)) 4
def oL(s:ByteArray):Int:=beF (fun i=>bt s (5+i)) 2
theorem N5(s:ByteArray)(h:7≤s.size):fh (s.extract 1 5)=oN s:=by have hz:=mn s 1 5 (by omega);rw [(pv (by omega)).1,hz];exact Ak _ _ 4 fun i hi=>l9 s 1 5 i (by omega) (by omega)
theorem N6(s:ByteArray)(h:7≤s.size):fh (s.extract 5 7)=oL s:=by have hz:=mn s 5 7 (by omega);rw [(pv (by omega)).1,hz];exact Ak _ _ 2 fun i hi=>l9 s 5 7 i (by omega) (by omega)
theorem z7(s:ByteArray):0≤oN s∧oN s <4294967296:=rz _ (fun _=>bt_nonneg s _) (fun _=>bt_le s _) 4
theorem Ce(s:ByteArray):0≤oL s∧oL s <65536:=rz _ (fun _=>bt_nonneg s _) (fun _=>bt_le s _) 2
section
variable (s:ByteArray) (m:Nat)
def mv:Prop:=s.extract m (m+4)=strOfNums (gv (fj (s.extract 0 m)))
def tr:Prop:=oL s=(m:Int)-7∧dh (oK s) (oN s) (m-7)=0
open Classical in
noncomputable def ch:Int:=if s.size <11 then 3 else if 1011 <s.size then 2 else if ¬mv s (s.size-4)then 5 else if tr s (s.size-4)then 0 else 4
noncomputable def dg:Int:=if ch s=0 then oK s else 0
noncomputable def d9:Int:=if ch s=0 then oN s else 0
noncomputable def aq:ByteArray:=if ch s=0 then s.extract 7 (s.size-4)else⟨#[]⟩
end
section
variable {s:ByteArray} {m:Nat}
theorem ou(h:ch s≠0):dg s=0∧d9 s=0∧aq s=⟨#[]⟩:=by unfold dg d9 aq;simp only [if_neg h,and_self]
theorem Ca(h:s.size <11):ch s=3:=if_pos h
theorem Cb(h:1011 <s.size):ch s=2:=by unfold ch;rw [if_neg (by omega),if_pos h]
theorem j0u(hm:s.size=m+4)(h1:11≤s.size)(h2:s.size≤1011)(h:¬mv s m):ch s=5:=by unfold ch;rw [if_neg (by omega),if_neg (by omega),show s.size-4=m by omega,if_pos h]
theorem Rq(hm:s.size=m+4)(h1:11≤s.size)(h2:s.size≤1011)(h:mv s m)(hf:¬tr s m):ch s=4:=by unfold ch;rw [if_neg (by omega),if_neg (by omega),show s.size-4=m by omega,if_neg (fun e=>e h),if_neg hf]
theorem Rp(hm:s.size=m+4)(h1:11≤s.size)(h2:s.size≤1011)(h:mv s m)(hf:tr s m):ch s=0∧dg s=oK s∧d9 s=oN s∧aq s=s.extract 7 m:=by
 have e:ch s=0:=by unfold ch;rw [if_neg (by omega),if_neg (by omega),show s.size-4=m by omega,if_neg (fun e=>e h),if_pos hf]
 refine⟨e,?_,?_,?_⟩
 ·unfold dg;rw [if_pos e]
 ·unfold d9;rw [if_pos e]
 ·unfold aq;rw [if_pos e,show s.size-4=m by omega]
theorem d0q(hm:s.size=m+4)(h7:7≤m)(h2:m≤1007)(h:mv s m)(he:dh (oK s) (oN s) (m-7)=0):strOfNums (ij (oK s) (oN s) (s.extract 7 m))=s↔oL s=(m:Int)-7:=by
 have hz:(s.extract 7 m).size=m-7:=mn s 7 m (by omega);have hS:=Bs (k:=oK s) (n:=oN s) (t:=s.extract 7 m) (by rw [hz];exact he);constructor
 ·intro e
  have a5:(ij (oK s) (oN s) (s.extract 7 m))[5]?=some (((m-7:Nat):Int)/256%256):=by rw [hS];unfold ew;rw [hz];simp [cb]
  have a6:(ij (oK s) (oN s) (s.extract 7 m))[6]?=some (((m-7:Nat):Int)%256):=by rw [hS];unfold ew;rw [hz];simp [cb]
  have b5:=Xr a5 (by omega) (by omega);have b6:=Xr a6 (by omega) (by omega);rw [e]at b5 b6;have:oL s=bt s 5*256+bt s 6:=by simp [oL,beF]
  omega
 ·intro e
  have hH:ew (oK s) (oN s) (s.extract 7 m)=btL s m:=by
   unfold ew;rw [hz,show((m-7:Nat):Int)=oL s by omega];have a:=Va (fun i=>bt s (1+i)) (fun j=>bt_nonneg s _) (fun j=>bt_le s _);have b:=Vb (fun i=>bt s (5+i)) (fun j=>bt_nonneg s _) (fun j=>bt_le s _)
   have c:cb 1 (oK s)=[bt s 0]:=by have h0:=bt_nonneg s 0;have h1:=bt_le s 0;simp [cb,oK];omega
   rw [show oN s=beF (fun i=>bt s (1+i)) 4 from rfl,show oL s=beF (fun i=>bt s (5+i)) 2 from rfl,a,b,c];have hj:=u0v s 7 (m-7) (by omega);rw [show 7+(m-7)=m by omega]at hj;rw [←hj];rfl
  rw [hS,hH,b0w,b0v s m (by omega)];have h':s.extract m (m+4)=strOfNums (gv (fj (s.extract 0 m))):=h;rw [←h',←hm];exact r0u s m (by omega)
end
end
section
open Go.RowKit
structure bc where
 Len:Int
 Dist:Int
 Byte:Int
def bc.cells(m:bc):List Value:=[.int .i64 m.Len,.int .i64 m.Dist,.int .u8 m.Byte]
def bc.ok(m:bc):Prop:=(Lit.int .i64 m.Len).wf=true∧(Lit.int .i64 m.Dist).wf=true∧(Lit.int .u8 m.Byte).wf=true
structure OpD where
 Kind:Int
 At:Int
 Text:ByteArray
def OpD.cells(m:OpD):List Value:=[.int .i64 m.Kind,.int .i64 m.At,.string m.Text]
structure ae where
 At:Int
 Text:ByteArray
def ae.cells(m:ae):List Value:=[.int .i64 m.At,.string m.Text]
def ae.ok(m:ae):Prop:=(Lit.int .i64 m.At).wf=true∧m.Text.size≤maxLen
structure bz where
 Kind:Int
 Ino:Int
 Nth:Int
 Text:ByteArray
def bz.cells(m:bz):List Value:=[.int .i64 m.Kind,.int .i64 m.Ino,.int .i64 m.Nth,.string m.Text]
structure aa where
 Cell:Int
 Nth:Int
def aa.cells(m:aa):List Value:=[.int .i64 m.Cell,.int .i64 m.Nth]
structure ay where
 Name:ByteArray
 Ino:Int
def ay.cells(m:ay):List Value:=[.string m.Name,.int .i64 m.Ino]
def kx:Nat→Int→List Int
 |0,n=>[n]
 |f+1,n=>if n <128 then [n]else(128+n%128)::kx f (n/128)
def k8(n:Int):List Int:=kx 9 n
theorem Gt(f:Nat)(n:Int)(h:n <128):kx f n=[n]:=by
 cases f with
 |zero=>rfl
 |succ f=>simp only [kx];rw [if_pos h]
theorem Gu(f:Nat)(n:Int)(h:¬n <128):kx (f+1) n=(128+n%128)::kx f (n/128):=by simp only [kx];rw [if_neg h]
theorem yt(f:Nat)(n:Int):(kx f n).length≤f+1∧0 < (kx f n).length:=by
 induction f generalizing n with
 |zero=>simp [kx]
 |succ f ih=>
  simp only [kx];split
  ·simp
  ·have:=ih (n/128);simp;omega
theorem j0r:∀x:Nat,x <256→x|||128=128+x%128:=by decide+kernel
theorem h0e(m:Int):bits .or .u8 (m%256) 128=128+m%128:=by rw [u8_or _ _ (by omega) (by omega) (by decide) (by decide)];rw [show(128:Int).toNat=128 from rfl,j0r _ (by omega)];omega
theorem h0d(m:Int)(h0:0≤m)(h1:m≤18446744073709551615):m.tmod 128=m%128∧m.tdiv 128=m/128∧IntKind.u64.wrap (128+m%128)=128+m%128∧IntKind.u8.wrap (128+m%128)=128+m%128∧IntKind.u64.wrap (m/128)=m/128:=by
 refine⟨Int.tmod_eq_emod_of_nonneg h0,Int.tdiv_eq_ediv_of_nonneg h0,?_,?_,?_⟩
 ·rw [IntKind.wrap_u64];omega
 ·rw [IntKind.wrap_u8];omega
 ·rw [IntKind.wrap_u64];omega
def x9(f:Nat)(n:Int):Prop:=0≤n∧n <2^(7*f+7)
theorem Ve{f:Nat}{n:Int}(h:x9 (f+1) n):x9 f (n/128):=by obtain⟨h0,h1⟩:=h;rw [show 7*(f+1)+7=(7*f+7)+7 by omega,Int.pow_add]at h1;refine⟨by omega,?_⟩;have:(2:Int)^7=128:=rfl;omega
theorem Vc{n:Int}(h:x9 0 n):n <128:=h.2
theorem Vd{n:Int}(h0:0≤n)(h1:n≤18446744073709551615):x9 9 n:=⟨h0,Int.lt_of_le_of_lt h1 (by decide)⟩
end
section
open Go.RowKit Go.PlainAid
def F6(k i n:Int)(t:ByteArray):Prop:=0≤i∧i≤47∧((k=1∧0≤n∧n≤7)∨(k=2∧n=0)∨(k=3∧n=0∧t.size=0))
open Classical in
noncomputable def ge(k i n:Int)(t:ByteArray):Int:=if ¬F6 k i n t then 1 else if 600 <t.size then 2 else 0
theorem ja{k i n:Int}{t:ByteArray}(h:¬F6 k i n t):ge k i n t=1:=if_pos h
theorem Ej{k i n:Int}{t:ByteArray}(h:F6 k i n t)(h2:600 <t.size):ge k i n t=2:=by unfold ge;rw [if_neg (fun e=>e h),if_pos h2]
theorem xn{k i n:Int}{t:ByteArray}(h:F6 k i n t)(h2:¬600 <t.size):ge k i n t=0:=by unfold ge;rw [if_neg (fun e=>e h),if_neg h2]
theorem Ah{k i n:Int}{t:ByteArray}(h:ge k i n t=0):1≤k∧k≤3∧0≤i∧i≤47∧0≤n∧n≤7∧t.size≤600:=by
 unfold ge at h;split at h
 ·cases h
 ·rename_i h1;have h1:=Classical.not_not.1 h1;split at h
  ·cases h
  ·obtain⟨a,b,c⟩:=h1;omega
theorem Dr{t:ByteArray}(h:t.size=0):t=⟨#[]⟩:=by apply ByteArray.ext;exact Array.eq_empty_of_size_eq_zero h
theorem Ds{t:ByteArray}(h:t.size≠0):(t.toList==([]:List UInt8))=false:=by
 refine bF fun e=>h ?_
 have:t=⟨#[]⟩:=yf (by rw [e,Go.Lib.toList_data]);rw [this];rfl
theorem ls{t:ByteArray}(h:t.size≠0):(t.toList==(⟨#[]⟩:ByteArray).toList)=false:=me (fun e=>h (by rw [e];rfl))
def lk(k i n:Int)(t:ByteArray):List Int:=[k,i,n]++(k8 t.size++btL t t.size)
theorem Rx(k i n:Int)(t:ByteArray):(lk k i n t).length≤13+t.size:=by have:(k8 (t.size:Int)).length≤10:=(yt 9 _).1;unfold lk;simp only [List.length_append,Ed,List.length_cons,List.length_nil];omega
def iw:List bz→List Int
 | []=>[]
 |b::r=>lk b.Kind b.Ino b.Nth b.Text++iw r
noncomputable def fz:List bz→Int
 | []=>0
 |b::r=>if ge b.Kind b.Ino b.Nth b.Text≠0 then ge b.Kind b.Ino b.Nth b.Text else fz r
theorem Y9(a b:List bz):iw (a++b)=iw a++iw b:=by
 induction a with
 |nil=>rfl
 |cons x r ih=>simp [iw,ih]
theorem Y8{l:List bz}{j:Nat}{k i n:Int}{t:ByteArray}(h:l[j]?=some ⟨k,i,n,t⟩):iw (l.take (j+1))=iw (l.take j)++lk k i n t:=by rw [List.take_add_one,h,Y9];simp [iw]
theorem Wy{l:List bz}{j:Nat}{x:bz}(h:l[j]?=some x):l.drop j=x::l.drop (j+1):=by
 have hk:j <l.length:=(gS.1 h).1;rw [List.drop_eq_getElem_cons hk];have:l[j]=x:=by have:=gE hk;rw [this]at h;injection h
 rw [this]
theorem X6{l:List bz}{j:Nat}{k i n:Int}{t:ByteArray}(h:l[j]?=some ⟨k,i,n,t⟩)(hx:ge k i n t≠0):fz (l.drop j)=ge k i n t:=by rw [Wy h,fz,if_pos hx]
theorem Wz{l:List bz}{j:Nat}{k i n:Int}{t:ByteArray}(h:l[j]?=some ⟨k,i,n,t⟩)(hx:ge k i n t=0):fz (l.drop j)=fz (l.drop (j+1)):=by rw [Wy h,fz,if_neg (by simp [hx])]
theorem X4{l:List bz}{j:Nat}(h:l.length≤j):fz (l.drop j)=0:=by rw [List.drop_eq_nil_of_le h];rfl
noncomputable def gj(l:List bz):Int:=if 40 <l.length then 2 else if fz l≠0 then fz l else if 998 < (iw l).length then 2 else 0
noncomputable def i9(l:List bz)(x:Int):List Int:=if gj l=0 then x::(l.length:Int)::iw l else []
theorem Kw{l:List bz}(x:Int)(h:40 <l.length):gj l=2∧i9 l x=[]:=by have e:gj l=2:=if_pos h;exact⟨e,by unfold i9;rw [e];rfl⟩
theorem Kx{l:List bz}(x:Int)(h:¬40 <l.length){e:Int}(he:e≠0)(h2:fz l=e):gj l=e∧i9 l x=[]:=by
 have e':gj l=e:=by unfold gj;rw [if_neg h,if_pos (by rw [h2];exact he),h2]
 exact⟨e',by unfold i9;rw [e',if_neg he]⟩
theorem Ya{l:List bz}(x:Int)(h:¬40 <l.length)(h2:fz l=0)(h3:998 < (iw l).length):gj l=2∧i9 l x=[]:=by
 have e:gj l=2:=by unfold gj;rw [if_neg h,if_neg (by simp [h2]),if_pos h3]
 exact⟨e,by unfold i9;rw [e];rfl⟩
theorem Eh{l:List bz}(x:Int)(h:¬40 <l.length)(h2:fz l=0)(h3:¬998 < (iw l).length):gj l=0∧i9 l x=x::(l.length:Int)::iw l:=by
 have e:gj l=0:=by unfold gj;rw [if_neg h,if_neg (by simp [h2]),if_neg h3]
 exact⟨e,by unfold i9;rw [e];rfl⟩
end
section
open Go.RowKit
def mz(f:Nat→Int)(len:Nat):Nat→Nat→Nat
 |0,i=>i
 |g+1,i=>if i <len∧128≤f i then mz f len g (i+1)else i
def cd(f:Nat→Int)(len:Nat):Nat:=mz f len 9 0
def dq(f:Nat→Int):Nat→Int
 |0=>0
 |k+1=>dq f k+(f k%128)*128^k
def ce(f:Nat→Int)(len:Nat):Int:=
 if cd f len=len then 3 else if(cd f len=9∧1 <f (cd f len))∨(0 <cd f len∧f (cd f len)=0)then 4 else 0
def ck(f:Nat→Int)(len:Nat):Int:=if ce f len=0 then(cd f len:Int)+1 else 0
def c9(f:Nat→Int)(len:Nat):Int:=if ce f len=0 then dq f (cd f len+1)else 0
theorem c0b(f:Nat→Int)(len:Nat):∀(g i:Nat),i≤len→i≤mz f len g i∧mz f len g i≤i+g∧mz f len g i≤len∧
 (∀j,i≤j→j <mz f len g i→128≤f j)∧(mz f len g i <len→mz f len g i <i+g→f (mz f len g i) <128):=by
 intro g
 induction g with
 |zero=>intro i hi;simp only [mz];exact⟨by omega,by omega,hi,fun j h1 h2=>by omega,fun _ h=>by omega⟩
 |succ g ih=>
  intro i hi
  simp only [mz]
  split
  ·rename_i h
   obtain⟨h1,h2,h3,h4,h5⟩:=ih (i+1) (by omega)
   refine⟨by omega,by omega,h3,fun j hj1 hj2=>?_,fun a b=>h5 a (by omega)⟩
   by_cases e:j=i
   ·subst e;exact h.2
   ·exact h4 j (by omega) hj2
  ·rename_i h
   exact⟨by omega,by omega,hi,fun j h1 h2=>by omega,fun a _=>by omega⟩
theorem wj(f:Nat→Int)(len:Nat):cd f len≤9∧cd f len≤len∧(∀j,j <cd f len→128≤f j)∧(cd f len <len→cd f len <9→f (cd f len) <128):=by
 obtain⟨_,h2,h3,h4,h5⟩:=c0b f len 9 0 zl;refine⟨?_,h3,fun j hj=>h4 j zl hj,fun a b=>h5 a ?_⟩
 ·unfold cd;omega
 ·unfold cd at b;omega
theorem I3(k:Nat):(0:Int) <128^k:=Int.pow_pos (by decide)
theorem mx(f:Nat→Int)(k:Nat):0≤dq f k∧dq f k <128^k:=by
 induction k with
 |zero=>simp [dq]
 |succ k ih=>
  have h1:=I3 k;have h2:0≤f k%128∧f k%128≤127:=by omega
  simp only [dq,Int.pow_succ];have h3:f k%128*128^k≤127*128^k:=Int.mul_le_mul_of_nonneg_right h2.2 (by omega);have h4:0≤f k%128*128^k:=Int.mul_nonneg h2.1 (by omega);omega
theorem Mu(f:Nat→Int)(len:Nat)(hpos:∀j,0≤f j)(h:ce f len=0):dq f (cd f len+1) <18446744073709551616:=by
 obtain⟨h1,_,_,_⟩:=wj f len;by_cases h9:cd f len=9
 ·have hf:¬1 <f 9:=by intro hf;unfold ce at h;rw [if_pos (Or.inl ⟨h9,by rw [h9];exact hf⟩)]at h;split at h<;>simp at h
  rw [h9];show dq f 9+f 9%128*128^9 <_;have hb:=(mx f 9).2;have h0:=hpos 9;have e9:(128:Int)^9=9223372036854775808:=by decide
  rw [e9]at*;rcases(show f 9=0∨f 9=1 by omega)with e|e<;>rw [e]<;>omega
 ·have hb:=(mx f (cd f len+1)).2
  have:(128:Int)^(cd f len+1)≤128^9:=by have:(128:Nat)^(cd f len+1)≤128^9:=Nat.pow_le_pow_right (by omega) (by omega);exact_mod_cast this
  have e9:(128:Int)^9=9223372036854775808:=by decide
  omega
theorem De{f:Nat→Int}{len:Nat}(h:cd f len=len):ce f len=3∧ck f len=0∧c9 f len=0:=by
 have:ce f len=3:=by unfold ce;rw [if_pos h]
 refine⟨this,?_,?_⟩
 ·unfold ck;rw [if_neg (by omega)]
 ·unfold c9;rw [if_neg (by omega)]
theorem Jp{f:Nat→Int}{len:Nat}(h:cd f len≠len)(hb:(cd f len=9∧1 <f (cd f len))∨(0 <cd f len∧f (cd f len)=0)):ce f len=4∧ck f len=0∧c9 f len=0:=by
 have:ce f len=4:=by unfold ce;rw [if_neg h,if_pos hb]
 refine⟨this,?_,?_⟩
 ·unfold ck;rw [if_neg (by omega)]
 ·unfold c9;rw [if_neg (by omega)]
theorem Jn{f:Nat→Int}{len:Nat}(h:cd f len≠len)(hb:¬((cd f len=9∧1 <f (cd f len))∨(0 <cd f len∧f (cd f len)=0))):ce f len=0∧ck f len=cd f len+1∧c9 f len=dq f (cd f len+1):=by
 have:ce f len=0:=by unfold ce;rw [if_neg h,if_neg hb]
 refine⟨this,?_,?_⟩
 ·unfold ck;rw [if_pos this]
 ·unfold c9;rw [if_pos this]
theorem o0j(v x:Int)(i:Nat)(h0:0≤v)(h1:v <128^i)(hx0:0≤x)(hx:x*128^i <18446744073709551616)(hi:i≤9):bits .or .u64 v (IntKind.u64.wrap (x*2^(7*i)))=v+x*128^i:=by
 have e:(2:Int)^(7*i)=128^i:=by rw [Int.pow_mul];rfl
 obtain⟨a,rfl⟩:=Int.eq_ofNat_of_zero_le h0;obtain⟨b,rfl⟩:=Int.eq_ofNat_of_zero_le hx0;have ep:(128:Int)^i=((128^i:Nat):Int):=by simp
 have e3:(2:Nat)^(7*i)=128^i:=by rw [Nat.pow_mul]
 have hp:(128:Nat)^i≤128^9:=Nat.pow_le_pow_right (by omega) hi;have h3:(128:Nat)^9=9223372036854775808:=by decide
 have h2:bits .or .u64 (a:Int) (IntKind.u64.wrap ((b:Int)*((128^i:Nat):Int)))=(a:Int)+(b:Int)*((128^i:Nat):Int):=by rw [ep]at h1 hx;have hj:=nat_join (7*i) (b*128^i) a (by rw [e3];exact Nat.mul_mod_left _ _) (by rw [e3];omega);generalize 128^i=q at*;rw [show((b:Int)*(q:Int))=((b*q:Nat):Int) by simp]at*;rw [IntKind.wrap_u64,show(((b*q:Nat):Int)%18446744073709551616)=((b*q:Nat):Int) by omega,u64_or_nat _ _ (by omega) (by omega),Nat.or_comm,hj];omega
 rw [e,ep];exact h2
theorem w0q(b:Int)(h0:0≤b)(h1:b≤255):bits .and .u8 b 127=b%128:=by rw [u8_and _ _ h0 (by omega) (by decide) (by decide),show(127:Int).toNat=127 from rfl,nat_mask7];omega
theorem Ty(f:Nat→Int)(i:Nat)(v:Int)(hv:v=dq f i)(hf0:0≤f i)(hf1:f i≤255)(hi:i≤9)(h9:i=9→f i≤1):bits .or .u64 v (IntKind.u64.wrap (IntKind.u64.wrap (bits .and .u8 (f i) 127)*2^(7*i)))=dq f (i+1):=by
 rw [w0q _ hf0 hf1,show IntKind.u64.wrap (f i%128)=f i%128 by rw [IntKind.wrap_u64];omega,hv];have hb:=mx f i;refine o0j _ _ i hb.1 hb.2 (by omega) ?_ hi;by_cases h:i=9
 ·subst h;have:=h9 rfl;rw [show(128:Int)^9=9223372036854775808 by decide];omega
 ·have h0:=mx f (i+1)
  have:(128:Int)^(i+1)≤128^9:=by have:(128:Nat)^(i+1)≤128^9:=Nat.pow_le_pow_right (by omega) (by omega);exact_mod_cast this
  have e9:(128:Int)^9=9223372036854775808:=by decide
  have e1:dq f (i+1)=dq f i+(f i%128)*128^i:=rfl;omega
theorem Jh(f:Nat→Int)(T v:Int)(i:Nat)(h0:0≤v)(hv:v*128^(i+1)+dq f (i+1)=T)(hT:T <18446744073709551616):(v*128+f i%128)*128^i+dq f i=T∧v*128+f i%128≤18446744073709551615∧v*128≤18446744073709551615:=by
 have e1:dq f (i+1)=dq f i+(f i%128)*128^i:=rfl;have hp:=I3 i;have hb:=(mx f i).1;rw [e1,Int.pow_succ]at hv
 have e2:(v*128+f i%128)*128^i=v*(128^i*128)+f i%128*128^i:=by rw [Int.add_mul,Int.mul_assoc,Int.mul_comm 128]
 have h2:(v*128+f i%128)*128^i+dq f i=T:=by omega
 have h3:0≤v*128+f i%128:=by omega
 have h4:(v*128+f i%128)*1≤(v*128+f i%128)*128^i:=Int.mul_le_mul_of_nonneg_left (by omega) h3;refine⟨h2,?_,?_⟩<;>omega
end
end Go.Proofs.YtcldpfhpkbeaiadGreat
