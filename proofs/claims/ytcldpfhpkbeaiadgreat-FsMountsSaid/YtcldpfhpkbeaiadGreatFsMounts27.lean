/- A part of the proof of FsMounts. No condition of ours. -/
import Derived.Test.YtcldpfhpkbeaiadGreatFsMounts26
import Derived.Test.YtcldpfhpkbeaiadGreatFsMounts24
set_option maxRecDepth 100000
set_option maxHeartbeats 16000000
namespace Go.Proofs.YtcldpfhpkbeaiadGreat
section
open Go.RowKit Go.PlainAid
theorem U9:(Tryz.prog.info? 99).map (fun i=>(i.zero,i.size,i.bytes))=some (some (.agg #[.string ByteArray.empty,.int .i64 0]),2,24):=by kernel_rfl
def s0m:Value→Nat
 | .string t=>t.size
 |_=>0
structure RdI(s:ByteArray)(w:World)(p:Nat)(L:List ay)(v:Value)(wr:World):Prop where
 lst:RdL s p L
 own:af wr w.heap.size 2 v L.length (L.flatMap ay.cells)
 below:Below w.heap.size w wr
theorem k0k(w:World)(B:Nat):ab w B none 0 0 ay.cells 2 ([]:List ay):=⟨rfl,Nat.le_refl _,zl,fun i x h=>by simp at h⟩
def tp(s:ByteArray)(w:World)(e:Ending)(w':World):Prop:=
 ∃D q d,e= .returned (.tuple #[.slice D q d,.int .i64 (rdE s)])∧ab w' w'.heap.size D q d ay.cells 2 (rdR s)∧Below w.heap.size w w'∧(∀a,D=some a→w.heap.size≤a.block)
theorem By{s:ByteArray}{w w':World}(h:rdE s=4∧rdR s=[])(hb:Below w.heap.size w w'):tp s w (.returned (.tuple #[.slice none 0 0,.int .i64 4])) w':=⟨none,0,0,by rw [h.1],by rw [h.2];exact k0k _ _,hb,fun a ha=>by cases ha⟩
theorem V6(L:List ay)(x:ay):(L++[x]).flatMap ay.cells=L.flatMap ay.cells++[.string x.Name,.int .i64 x.Ino]:=by rw [List.flatMap_append];simp [ay.cells]
theorem Vj(s:ByteArray)(p a b:Nat)(hp:p≤s.size)(hb:b≤s.size-p):(s.extract p s.size).extract a b=s.extract (p+a) (p+b):=by rw [Dk s p,In,Dk s (p+a)];congr 1;rw [List.drop_take,List.drop_drop,List.take_take];congr 1;omega
theorem s0q(s:ByteArray)(hs:s.size≤1048575)(w:World):Calls Tryz.prog 56 #[.string s] w (tp s w):=by
 have HS:=h_ hs;clear hs;go_enter Tryz.func56,Tryz.ntmps56;go_wp2;go_loopw [0,4] (fun v0 v4 wr=>∃(p:Nat) (T:ByteArray) (L:List ay),v0= .string T∧Hid (T=s.extract p s.size)∧Hid (RdI s w p L v4 wr)) (fun v0 _ _=>s0m v0)
 case atStart=>exact⟨0,s,[],rfl,by show s=_;rw [Dk,List.drop_zero,Nat.sub_zero,List.take_of_length_le (by rw [m9];exact Nat.le_refl _),zh],Qh s,af.nil _ _ _,br⟩
 case round=>
  obtain⟨p,T,L,rfl,HT,HR⟩:=hrel;obtain⟨wq,rfl⟩:∃z:World,z=wr:=⟨_,rfl⟩;obtain⟨A,c,rfl⟩:=HR.o.own.form;have h3:=HR.o.lst.le;have h7:T.size=s.size-p:=by rw [HT.o,ByteArray.size_extract];omega
  by_cases hlt:p <s.size
  ·have h0:T.size≠0:=by omega
   have e0:=ls h0;have hw:=zz h0;have hx:=Dt h0;obtain⟨n,hn⟩:∃n:Nat,bt s p=(n:Int):=⟨(bt s p).toNat,by have:=bt_nonneg s p;omega⟩;have hn255:(n:Int)≤255:=by rw [←hn];exact bt_le s p
   have hB:bt T 0=(n:Int):=by rw [HT.o,l9 s p s.size 0 (by omega) ler];exact hn
   have hg:=get_bt T;have hy:0 <T.size:=by omega
   have hz:(T.size:Int)≤1048575:=by have:=HS.o;omega
   by_cases h2:T.size <n+2
   ·have hk:(T.size:Int) < (n:Int)+2:=by omega
    have F:=h_ (HR.o.lst.none hlt hn (by omega));clear hn h3 h7 hlt h0 h2;go_wp2;go_ret2;exact By F.o HR.o.below
   ·have hk:¬(T.size:Int) < (n:Int)+2:=by omega
    obtain⟨v,hv⟩:∃v,v=bt s (p+1+n):=⟨_,rfl⟩;have hC:bt T (1+n)=v:=by rw [HT.o,l9 s p s.size (1+n) (by omega) ler,hv];congr 1;omega
    obtain⟨NM,h9⟩:∃NM,NM=s.extract (p+1) (p+1+n):=⟨_,rfl⟩;have hA:T.extract 1 (1+n)=NM:=by rw [HT.o,Vj s p 1 (1+n) h3 (by omega),h9];congr 1;omega
    obtain⟨T2,h4⟩:∃T2,T2=s.extract (p+n+2) s.size:=⟨_,rfl⟩;have hj:T.extract (n+2) T.size=T2:=by rw [h7,HT.o,Vj s p (n+2) (s.size-p) h3 ler,h4];congr 1<;>omega
    have hc:=HR.o.lst.step hn (by omega);rw [←h9,←hv]at hc;have HN:=h_ hc;have hr:=h_ h4;have hp:Hid (T2.size <T.size):=by show _ <_;rw [h4,ByteArray.size_extract];omega
    have hu:=HR.o.lst.cnt;have G2:Hid (∀u∈(#[.string NM,.int .i64 v]:Array Value).toList,u.oneCell'=true):=by simp [Hid,Value.oneCell']
    have G3:Hid (L.length+1≤maxLen∧(L.length+1)*24≤140737488355328):=by have:=HS.o;unfold maxLen Hid;omega
    have G4:Hid (0 <2):=by simp [Hid]
    obtain⟨U,hU⟩:∃U,U=L.flatMap ay.cells:=⟨_,rfl⟩;have h8:=HR.o.own;rw [←hU]at h8;have hq:=HR.o.below.size;have GO:Hid (af (wq.alloc (.cells #[.string NM,.int .i64 v] 99)).drew w.heap.size 2 (.slice A L.length c) L.length U):=(h8.alloc _).drew;have GB:Hid (w.heap.size≤(wq.alloc (.cells #[.string NM,.int .i64 v] 99)).drew.heap.size):=by simp [Hid];omega
    have GH:Hid ((wq.alloc (.cells #[.string NM,.int .i64 v] 99)).drew.heap[wq.heap.size]?=some (.cells #[.string NM,.int .i64 v] 99)):=A_ wq _;have GZ:Hid (Below w.heap.size w (wq.alloc (.cells #[.string NM,.int .i64 v] 99)).drew):=(HR.o.below.alloc hq _).drew;have HU:=h_ hU;have a1:IntKind.i64.wrap (1+(n:Int))=1+(n:Int):=by rw [IntKind.wrap_i64];omega
    have a2:(1+(n:Int)).toNat=1+n:=by omega
    have a3:(0:Int)≤1+(n:Int):=by omega
    have a4:1+(n:Int) < (T.size:Int):=by omega
    have a5:1+n <T.size:=by omega
    have a6:(1:Int)≤1+(n:Int):=by omega
    have a7:1+(n:Int)≤(T.size:Int):=by omega
    have a8:((n:Int)+2).toNat=n+2:=by omega
    have a9:IntKind.i64.wrap v=v:=by rw [IntKind.wrap_i64,hv];have:=bt_nonneg s (p+1+n);have:=bt_le s (p+1+n);omega
    clear hn h3 h7 hlt h0 h2 hv h9 h4 hU h8 hc;generalize hNN:L.length=N at*;have hm:=h_ hNN;clear hNN;go_upto_region 6 with fail
    go_region_law
     (refine oh (P:=Tryz.prog) (e:=99) (z:=.agg #[.string ByteArray.empty,.int .i64 0]) (size:=2) (bytes:=24) (base:=w.heap.size) rfl (.tmp 16) (.tmp 27) 95 rfl Tryz.underlying95 U9 rfl G4.o A N c U (by simp [go_sem]) GO.o GB.o wq.heap.size 1 #[.string NM,.int .i64 v] 99 (by simp [go_sem]) GH.o rfl G2.o G3.o.1 G3.o.2 ?_;intro A' c' w2 hf h5 hh)
    all_goals
     have HF:Hid (RdI s w (p+n+2) (L++[⟨NM,v⟩]) (.slice A' (N+1) c') w2):=by refine {lst:=HN.o,own:=?_,below:=h5.below ler GZ.o};rw [V6,←HU.o,List.length_append,hm.o];exact hf
     clear hf h5 hh;go_wp2;go_roundw
     case rel=>exact⟨p+n+2,T2,L++[(⟨NM,v⟩:ay)],rfl,hr,HF⟩
     case measure=>exact hp.o
  ·obtain rfl:p=s.size:=by omega
   obtain⟨h6,h5⟩:=HR.o.lst.last;obtain rfl:T=⟨#[]⟩:=yh (by omega);have ht:Hid (∀a,A=some a→w.heap.size≤a.block):=h_ (fun a ha=>(HR.o.own.lt a.block (by rw [ha];rfl)).1);have he:=h_ (HR.o.own.rows (enc:=ay.cells) (fun _=>rfl) (by decide));have HB:=h_ HR.o.below;have HC:=h_ (t0b A L.length c L wq he.o);clear h3 h7 hlt h5;by_cases hd:eu L=0
   ·have F:=h_ (Gr h6 hd);rw [hd]at HC;clear hd h6;go_wp2_with(go_at_call 90;refine HC.o.mono ?_;rintro e w3 ⟨rfl,h1⟩);go_ret2;exact⟨A,L.length,c,by rw [F.o.1];rfl,by rw [F.o.2];exact(he.o.below h1).more h1.size,HB.o.trans (h1.mono HB.o.size),ht.o⟩
   ·have F:=h_ (Gs h6 hd);have hj:(eu L !=0)=true:=bN hd;clear hd h6;generalize eu L=E at*;go_wp2_with(go_at_call 90;refine HC.o.mono ?_;rintro e w3 ⟨rfl,h1⟩);go_ret2;exact By F.o (HB.o.trans (h1.mono HB.o.size))
def qx(ok:Prop)(L:List ay)(w:World)(e:Ending)(w':World):Prop:=
 ∃z:Option Addr×Nat×Nat×Int,e= .returned (.tuple #[.slice z.1 z.2.1 z.2.2.1,.int .i64 z.2.2.2])∧(ok↔z.2.2.2=0)∧Below w.heap.size w w'∧(ok→ab w' w'.heap.size z.1 z.2.1 z.2.2.1 ay.cells 2 L∧(∀a,z.1=some a→w.heap.size≤a.block))
theorem Vs{ok:Prop}{L:List ay}{w w':World}{E:Int}(h:¬ok)(h0:E≠0)(hb:Below w.heap.size w w'):qx ok L w (.returned (.tuple #[.slice none 0 0,.int .i64 E])) w':=
 ⟨(none,0,0,E),rfl,⟨fun g=>absurd g h,fun g=>absurd g h0⟩,hb,fun g=>absurd g h⟩
def EnM(ok:Prop)(sz:Int)(L:List ByteArray)(w:World)(s s':Value)(wx:World):Prop:=DmI 69 ok sz L w s wx∧∃E,s'= .int .i64 E∧(ok↔E=0)
theorem s0j{ok:Prop}{sz:Int}{L:List ByteArray}{w:World}{f:FuncId}{args:Array Value}(h:Calls Tryz.prog f args w (Lv ok sz L w)):Calls Tryz.prog f args w fun e w'=>∃z:Int×Option Addr×Nat×Nat×Int,e= .returned (.tuple #[.agg #[.int .i64 z.1,.slice z.2.1 z.2.2.1 z.2.2.2.1],.int .i64 z.2.2.2.2])∧((ok↔z.2.2.2.2=0)∧DtQ ok sz L w w' z.1 z.2.1 z.2.2.1 z.2.2.2.1):=h
def DtZ(z:Int×Option Addr×Nat×Nat×Int):Value:=.tuple #[.agg #[.int .i64 z.1,.slice z.2.1 z.2.2.1 z.2.2.2.1],.int .i64 z.2.2.2.2]
theorem Mp{k:Nat}{L:List ByteArray}(h:fy k L=0):(whB k 0 L).length=k:=by
 have hp:kt k L:=by
  unfold fy at h;split at h
  ·cases h
  ·split at h
   ·simpa using ‹kt (k:Int).toNat L›
   ·cases h
 have:=Fn (sz:=k) (i:=0) (ps:=L) (fun j p hj=>by simpa using hp.2 j p hj) (by rw [hp.1];omega);simpa using this
theorem Jq{k:Nat}{L:List ByteArray}(h:fy k L=0):frE k 0 k L=0∧frS k 0 k L=mkS (whB k 0 L):=by
 have h1:=V4 (k:=k) (a:=0) (n:=k) h;have h2:((whB k 0 L).drop 0).take k=whB k 0 L:=by rw [List.drop_zero];exact List.take_of_length_le (by rw [Mp h];exact Nat.le_refl _)
 rw [h2]at h1;exact h1
theorem K2(b:Nat)(cs:List ByteArray)(ws:List ae)(xs:List aa)(gs fr:List Int)(os:List OpD)(v:FsV)(n:Nat)(K G:Int)(k:Nat)(D:Option Addr)(q d:Nat)(ps:List aa)(w:World)(h:FsT b cs ws xs gs fr os v w)(hd:au cs ws=0)(hr:ab w w.heap.size D q d aa.cells 2 ps)(hs1:k≤4096)(hpl:ps.length=npt k)(hgd:i8 cs ws n k ps→fy k (ps.map (dtT cs ws))=0):Calls Tryz.prog 30 #[.pointer (some ⟨b,0,none⟩),.int .i64 n,.agg #[.int .i64 K,.int .i64 G,.int .i64 k,.slice D q d]] w (qx (K=2∧i8 cs ws n k ps∧rdE (mkS (whB k 0 (ps.map (dtT cs ws))))=0) (rdR (mkS (whB k 0 (ps.map (dtT cs ws))))) w):=by
 have h5:Below w.heap.size w (w.alloc (.cells #[.int .i64 K,.int .i64 G,.int .i64 k,.slice D q d] 67)):=br.alloc ler _;have h3:=A_ w (.cells #[.int .i64 K,.int .i64 G,.int .i64 k,.slice D q d] 67);have b0:=rc0 h3;have HA:=h_ (h.below h5);have HR:=h_ ((hr.below h5).more h5.size);have hh:=h_ h5;have hv:=h_ h3;by_cases hK:K=2
 ·subst hK
  have hp:Hid (∀W,Below (w.alloc (.cells #[.int .i64 2,.int .i64 G,.int .i64 k,.slice D q d] 67)).heap.size (w.alloc (.cells #[.int .i64 2,.int .i64 G,.int .i64 k,.slice D q d] 67)) W→Calls Tryz.prog 20 #[.pointer (some ⟨b,0,none⟩),.int .i64 n,.agg #[.int .i64 2,.int .i64 G,.int .i64 k,.slice D q d]] W fun e w'=>∃z:Int×Option Addr×Nat×Nat×Int,e= .returned (.tuple #[.agg #[.int .i64 z.1,.slice z.2.1 z.2.2.1 z.2.2.2.1],.int .i64 z.2.2.2.2])∧((i8 cs ws n k ps↔z.2.2.2.2=0)∧DtQ (i8 cs ws n k ps) k (ps.map (dtT cs ws)) W w' z.1 z.2.1 z.2.2.1 z.2.2.2.1)):=
   h_ fun W hW=>s0j (Kj b cs ws xs gs fr os v n 2 G k D q d ps W (HA.o.below hW) hd ((HR.o.below hW).more hW.size) (by omega) (by omega) (by rw [hpl];simp))
  have hn:=h_ hgd;have b1:=rc1 h3;have b2:=rc2 h3;have b3:=rc3 h3;clear h hd hr h5 h3 hpl hgd;have hF:=b0;generalize hwa:w.alloc (.cells #[.int .i64 2,.int .i64 G,.int .i64 k,.slice D q d] 67)=wa at HA HR hh hv hp b0 b1 b2 b3;have hz:=h_ hwa;clear hwa;obtain⟨good,ht⟩:∃good,good=i8 cs ws n k ps:=⟨_,rfl⟩;obtain⟨L,hL⟩:∃L,L=ps.map (dtT cs ws):=⟨_,rfl⟩;rw [←ht,←hL]at hp hn;rw [←ht,←hL];clear ht hL;have hB:Hid (Below wa.heap.size wa (wa.alloc (.cells cz 69)).drew):=(br.alloc ler _).drew;have hC:Hid (wa.heap.size < (wa.alloc (.cells cz 69)).drew.heap.size):=by simp only [Hid];show wa.heap.size < (wa.alloc (.cells cz 69)).heap.size;simp
  have y:=cq hv.o (.cells cz 69);have y0:=rc0 y;have y1:=rc1 y;have y2:=rc2 y;have y3:=rc3 y;clear y;obtain⟨T,hT⟩:∃T,T=mkS (whB k 0 L):=⟨_,rfl⟩;rw [←hT]
  have HT:Hid (good→frE k 0 k L=0∧frS k 0 k L=T∧T.size≤1048575):=h_ fun h=>by have h1:=Jq (hn.o h);refine⟨h1.1,by rw [h1.2,hT],?_⟩;rw [hT];have:=Mp (hn.o h);show((whB k 0 L).toArray).size≤1048575;simp;omega
  have hA:Hid (∀E w',¬(2=2∧good∧rdE T=0)→E≠0→Below w.heap.size w w'→qx ((2:Int)=2∧good∧rdE T=0) (rdR T) w (.returned (.tuple #[.slice none 0 0,.int .i64 E])) w'):=h_ fun E w' h h0 hb=>Vs (fun g=>h ⟨rfl,g.2⟩) h0 hb
  have hD:Hid (∀A m c w',good→rdE T=0→Below w.heap.size w w'→ab w' w'.heap.size A m c ay.cells 2 (rdR T)→(∀a,A=some a→w.heap.size≤a.block)→qx ((2:Int)=2∧good∧rdE T=0) (rdR T) w (.returned (.tuple #[.slice A m c,.int .i64 0])) w'):=h_ fun A m c w' h1 h2 hb hr hf=>⟨(A,m,c,0),rfl,⟨fun _=>rfl,fun _=>⟨rfl,h1,h2⟩⟩,hb,fun _=>⟨hr,hf⟩⟩
  clear hT HA HR hn;generalize qx ((2:Int)=2∧good∧rdE T=0) (rdR T) w=PP at*;go_enter Tryz.func30,Tryz.ntmps30;go_upto_region 3 with fail;rw [hz.o];clear hz hF;go_cut [8,9] (fun s8 s9 wx=>EnM good k L wa s8 s9 wx)
  case first=>
   go_region_law(first
    |(refine eh rfl 20 rfl #[.pointer (some ⟨b,0,none⟩),.int .i64 n,.agg #[.int .i64 2,.int .i64 G,.int .i64 k,.slice D q d]] DtZ (by simp [go_sem]) (hp.o wa.drew br.drew) ?_;rintro⟨S,A,m,c,E⟩ w2 ⟨he,hk⟩;have hj:=A_ w2 (.cells cz 69);have u0:=rc0 hj;have u1:=rc1 hj;have u4:=ak hj 0;have u5:=ak hj 1;simp only [DtZ])
    |(refine eh rfl 20 rfl #[.pointer (some ⟨b,0,none⟩),.int .i64 n,.agg #[.int .i64 2,.int .i64 G,.int .i64 k,.slice D q d]] DtZ (by simp [go_sem]) (hp.o (wa.alloc (.cells cz 69)).drew hB.o) ?_;rintro⟨S,A,m,c,E⟩ w2 ⟨he,hk⟩;have hM:=ah (w:=(wa.alloc (.cells cz 69)).drew) (A_ wa _) hC.o hk.1;have u0:=rc0 hM;have u1:=rc1 hM;have u4:=ak hM 0;have u5:=ak hM 1;simp only [DtZ]))
   all_goals
    go_wp2_with fail;go_meet
    case rel=>first|exact⟨A7 hM hk,E,rfl,he⟩|exact⟨A9 hk,E,rfl,he⟩
  case rest=>
   rename World=>wx
   obtain⟨⟨S,A,m,c,M,rfl,hM,HM,HQ⟩,E,rfl,hE⟩:=hcut;have HE:=h_ hE;have hc:Hid (Below w.heap.size w wx):=h_ (hh.o.trans (HQ.o.1.mono hh.o.size));have a0:=rc0 HM.o;have a1:=rc1 HM.o;clear hE b0 b1 b2 b3 y0 y1 y2 y3 hM HM;by_cases hE0:E=0
   ·subst hE0;have hg:=HE.o.2 rfl
    obtain⟨_,rfl,hw⟩:good∧S=k∧ab wx wx.heap.size A m c (fun z=>[.string z]) 1 L:=by
     rcases HQ.o.2.2 with h|h
     ·exact h
     ·exact absurd hg h.1
    have HG:=h_ hg
    have hx:Hid (Calls Tryz.prog 21 #[.agg #[.int .i64 k,.slice A m c],.int .i64 0,.int .i64 k] wx fun e w'=>e= .returned (.tuple #[.string T,.int .i64 0])∧Below wx.heap.size wx w'):=by have h1:=V3 k A m c L 0 k wx hw;unfold Lu at h1;rw [(HT.o hg).1,(HT.o hg).2.1]at h1;exact h1
    have hm:Hid (∀W,Calls Tryz.prog 56 #[.string T] W (tp T W)):=h_ fun W=>s0q T (HT.o hg).2.2 W
    unfold tp at hm;clear HQ hg hw HE;by_cases he:rdE T=0
    ·rw [he]at hm;have HF:=h_ he;clear he
     go_wp2_with(first
      |(go_at_call 56;refine(hm.o _).mono ?_;rintro e w4 ⟨A4,m4,c4,rfl,h8,h6,h9⟩;have hu:=h_ h8;have hy:Hid (∀a,A4=some a→w.heap.size≤a.block):=h_ (fun a ha=>Nat.le_trans h4.o.size (h9 a ha));have hs:=h_ (h4.o.trans (h6.mono h4.o.size));clear h8 h6 h9)
      |(go_at_call 21;refine hx.o.mono ?_;rintro e w3 ⟨rfl,h7⟩;have h4:=h_ (hc.o.trans (h7.mono hc.o.size));clear h7))
     have HZ:=hD.o _ _ _ _ HG.o HF.o hs.o hu.o hy.o
     first|exact HZ|(go_ret2;exact HZ)|(go_ret;exact HZ)
    ·have HF:=h_ he;have g1:(rdE T !=0)=true:=bN he;generalize rdE T=rd at*;clear he
     go_wp2_with(first
      |(go_at_call 56;refine(hm.o _).mono ?_;rintro e w4 ⟨A4,m4,c4,rfl,h8,h6,h9⟩;have hu:=h_ h8;have hy:Hid (∀a,A4=some a→w.heap.size≤a.block):=h_ (fun a ha=>Nat.le_trans h4.o.size (h9 a ha));have hs:=h_ (h4.o.trans (h6.mono h4.o.size));clear h8 h6 h9)
      |(go_at_call 21;refine hx.o.mono ?_;rintro e w3 ⟨rfl,h7⟩;have h4:=h_ (hc.o.trans (h7.mono hc.o.size));clear h7))
     have HZ:=hA.o 18 _ (fun h=>HF.o h.2.2) (by decide) hs.o
     first|exact HZ|(go_ret2;exact HZ)|(go_ret;exact HZ)
   ·have g1:(E !=0)=true:=bN hE0;go_wp2;have HZ:=hA.o E _ (fun h=>hE0 (HE.o.1 h.2.1)) hE0 hc.o
    first|exact HZ|(go_ret2;exact HZ)|(go_ret;exact HZ)
 ·have g1:(K !=2)=true:=bN hK;have hq:=h_ (Vs (L:=rdR (mkS (whB k 0 (ps.map (dtT cs ws))))) (E:=15) (ok:=K=2∧i8 cs ws n k ps∧rdE (mkS (whB k 0 (ps.map (dtT cs ws))))=0) (fun h=>hK h.1) (by decide) hh.o);clear h hd hr h5 h3 hpl hgd;generalize qx (K=2∧i8 cs ws n k ps∧rdE (mkS (whB k 0 (ps.map (dtT cs ws))))=0) (rdR (mkS (whB k 0 (ps.map (dtT cs ws))))) w=PP at*;go_enter Tryz.func30,Tryz.ntmps30;go_wp2
  first|exact hq.o|(go_ret2;exact hq.o)|(go_ret;exact hq.o)
end
section
open Go.RowKit
theorem Mz(A:Option Addr)(n c:Nat)(cs:List ByteArray)(A':Option Addr)(n' c':Nat)(ws:List ae)(Am:Option Addr)(nm cm:Nat)(xs:List aa)(Ag:Option Addr)(ng cg:Nat)(gs:List Int)(k:Nat)(pc pn g:Int)(w:World)(r:ab w w.heap.size A n c (fun z=>[.string z]) 1 cs)(r':ab w w.heap.size A' n' c' ae.cells 2 ws)(rm:ab w w.heap.size Am nm cm aa.cells 2 xs)(rg:ab w w.heap.size Ag ng cg (fun z=>[.int .i64 z]) 1 gs)(hd:au cs ws=0)(hp:xs[k]?=some ⟨pc,pn⟩)(hg:gs[k]?=some g):Calls Tryz.prog 55 #[.agg #[.slice A n c,.slice A' n' c'],.agg #[.slice Am nm cm,.slice Ag ng cg],.int .i64 k] w (xw cs ws k ⟨pc,pn⟩ g w):=by
 have hZ:=r.len;subst hZ;have hS:=r'.len;subst hS;have hL:=rm.len;subst hL;have g0:=rg.len;subst g0;obtain⟨wa,hs⟩:∃wa,wa=((w.alloc (.cells #[.slice A cs.length c,.slice A' ws.length c'] 25)).alloc (.cells #[.slice Am xs.length cm,.slice Ag gs.length cg] 43)).alloc (.cells bf 67):=⟨_,rfl⟩;obtain⟨hu,h5⟩:=vk w (.cells #[.slice A cs.length c,.slice A' ws.length c'] 25) (.cells #[.slice Am xs.length cm,.slice Ag gs.length cg] 43) (.cells bf 67);obtain⟨hn,hj,hk⟩:=nj w (.cells #[.slice A cs.length c,.slice A' ws.length c'] 25) (.cells #[.slice Am xs.length cm,.slice Ag gs.length cg] 43) (.cells bf 67);rw [←hs]at hu h5 hn hj hk;have hx:=h5.size;have RA:=h_ ((r.below h5).more hx);have hR:=h_ ((r'.below h5).more hx);have i1:(k:Int) < (xs.length:Int):=by have:=(gS.1 hp).1;omega
 have i2:(k:Int) < (gs.length:Int):=by have:=(gS.1 hg).1;omega
 obtain⟨bm,om,rfl,hV,hy⟩:=(rm.below h5).at_ k _ hp;obtain⟨bg,og,rfl,hX,hI⟩:=(rg.below h5).one hg;have hz:wa.cell? ⟨bm,om+k*2,none⟩=some (.int .i64 pc):=by simpa using hy 0 _ rfl
 have hD:wa.cell? ⟨bm,om+k*2+1,none⟩=some (.int .i64 pn):=hy 1 _ rfl
 have HC:Hid (∀W,Below wa.heap.size wa W→W.cell? ⟨w.heap.size,0,none⟩=some (.slice A cs.length c)∧W.cell? ⟨w.heap.size,1,none⟩=some (.slice A' ws.length c')∧W.cell? ⟨w.heap.size+1,0,none⟩=some (.slice (some ⟨bm,om,none⟩) xs.length cm)∧W.cell? ⟨w.heap.size+1,1,none⟩=some (.slice (some ⟨bg,og,none⟩) gs.length cg)∧W.cell? ⟨bm,om+k*2,none⟩=some (.int .i64 pc)∧W.cell? ⟨bm,om+k*2+1,none⟩=some (.int .i64 pn)∧W.cell? ⟨bg,og+k,none⟩=some (.int .i64 g)∧Hid (W.heap[w.heap.size+1+1]?=some (.cells bf 67 (0,0)))):=fun W h=>by have q0:=ah hn (ag hn) h;have q1:=ah hj (ag hj) h;exact⟨aj q0 0,aj q0 1,aj q1 0,aj q1 1,(h.cell (p:=⟨bm,om+k*2,none⟩) (by simp only;omega)).trans hz,(h.cell (p:=⟨bm,om+k*2+1,none⟩) (by simp only;omega)).trans hD,(h.cell (p:=⟨bg,og+k,none⟩) (by simp only;omega)).trans hI,ah hk (ag hk) h⟩
 have ht:Hid (∀W,Below wa.heap.size wa W→Calls Tryz.prog 75 #[.agg #[.slice A cs.length c,.slice A' ws.length c'],.agg #[.int .i64 pc,.int .i64 pn]] W fun e w'=>∃_:Unit,e= .returned (.tuple #[.agg #[.int .i64 (ubB cs ws pc pn).Kind,.int .i64 (ubB cs ws pc pn).Ino,.int .i64 (ubB cs ws pc pn).Nth,.string (ubB cs ws pc pn).Text],.int .i64 (ubE cs ws pc pn)])∧Below W.heap.size W w'):=fun W h=>Xn (N4 A _ c cs A' _ c' ws pc pn W ((RA.o.below h).more h.size) ((hR.o.below h).more h.size) (jz hd).2.2.2.2)
 have hJ:Hid (∀W,Calls Tryz.prog 89 #[.string (ubB cs ws pc pn).Text] W fun e w'=>∃A n c,e= .returned (.tuple #[.agg #[.int .i64 (irK (ubB cs ws pc pn).Text),.int .i64 (irG (ubB cs ws pc pn).Text),.int .i64 (irS (ubB cs ws pc pn).Text),.slice A n c],.int .i64 (irE (ubB cs ws pc pn).Text)])∧ab w' w'.heap.size A n c aa.cells 2 (irP (ubB cs ws pc pn).Text)∧Below W.heap.size W w'∧(∀a,A=some a→W.heap.size≤a.block)):=fun W=>o0u _ W (by have:=sg hd pc pn;omega)
 have h7:Hid ((bf:Array Value).all (·.oneCell')=true):=by simp [Hid,Value.oneCell']
 have h6:Hid (¬(ubE cs ws pc pn=0∧(ubB cs ws pc pn).Kind=2∧(ubB cs ws pc pn).Ino=k∧irE (ubB cs ws pc pn).Text=0∧irG (ubB cs ws pc pn).Text=g)→∀w',Below w.heap.size w w'→xw cs ws k ⟨pc,pn⟩ g w (.returned (.tuple #[.agg bf,.string ⟨#[]⟩,.int .i64 18])) w'):=fun h w' hb=>.inr ⟨h,rfl,hb⟩
 have hC:Hid ((ubE cs ws pc pn=0∧(ubB cs ws pc pn).Kind=2∧(ubB cs ws pc pn).Ino=k∧irE (ubB cs ws pc pn).Text=0∧irG (ubB cs ws pc pn).Text=g)→∀(D:Option Addr) (q d:Nat) (w':World),ab w' w'.heap.size D q d aa.cells 2 (irP (ubB cs ws pc pn).Text)→Below w.heap.size w w'→(∀a,D=some a→w.heap.size≤a.block)→xw cs ws k ⟨pc,pn⟩ g w (.returned (.tuple #[.agg #[.int .i64 (irK (ubB cs ws pc pn).Text),.int .i64 (irG (ubB cs ws pc pn).Text),.int .i64 (irS (ubB cs ws pc pn).Text),.slice D q d],.string (ubB cs ws pc pn).Text,.int .i64 0])) w'):=fun h D q d w' hr hb hf=>.inl ⟨h,D,q,d,rfl,hr,hb,hf⟩
 have hY:=h_ hs;have h3:=h_ h5;have hw:=h_ hu;clear r r' rm rg hs h5 hu hn hj hk hx hd hp hg hy hI hz hD hV hX;generalize ubE cs ws pc pn=E at*;generalize ubB cs ws pc pn=B at*;obtain⟨bk,bi,bn,bt⟩:=B;simp only at ht hJ h6 hC;generalize irE bt=ie at*;generalize irG bt=ig at*;generalize irK bt=ik at*;generalize irS bt=is at*;generalize irP bt=ip at*;go_enter Tryz.func55,Tryz.ntmps55;go_wp2;rw [←hY.o];obtain⟨v0,v1,v2,v3,v4,v5,v6,v7⟩:=HC.o wa br;obtain⟨y0,y1,y2,y3,y4,y5,y6,y7⟩:=HC.o (wa.alloc (.cells dm 85)) (br.alloc ler _);have hP:Hid (Below wa.heap.size wa (wa.alloc (.cells dm 85)).drew):=(br.alloc ler _).drew;have hQ:Hid (wa.heap.size < (wa.alloc (.cells dm 85)).drew.heap.size):=by simp only [Hid];show wa.heap.size < (wa.alloc (.cells dm 85)).heap.size;simp
 go_cut [9,10] (fun s9 s10 wx=>UiI 85 (w.heap.size+3) ⟨bk,bi,bn,bt⟩ E wa s9 s10 wx)
 case first=>
  go_region_law(first
   |(refine eh rfl 75 rfl #[.agg #[.slice A cs.length c,.slice A' ws.length c'],.agg #[.int .i64 pc,.int .i64 pn]] (fun _:Unit=>Value.tuple #[.agg #[.int .i64 bk,.int .i64 bi,.int .i64 bn,.string bt],.int .i64 E]) (by simp [go_sem]) (ht.o wa.drew br.drew) ?_;rintro⟨⟩ w2 hc;have h4:=A_ w2 (.cells dm 85);have u0:=rc0 h4;have u1:=rc1 h4;have u2:=rc2 h4;have u3:=rc3 h4;have u4:=ak h4 0;have u5:=ak h4 1;have u6:=ak h4 2;have u7:=ak h4 3)
   |(refine eh rfl 75 rfl #[.agg #[.slice A cs.length c,.slice A' ws.length c'],.agg #[.int .i64 pc,.int .i64 pn]] (fun _:Unit=>Value.tuple #[.agg #[.int .i64 bk,.int .i64 bi,.int .i64 bn,.string bt],.int .i64 E]) (by simp [go_sem]) (ht.o (wa.alloc (.cells dm 85)).drew hP.o) ?_;rintro⟨⟩ w2 hc;have hM:=ah (w:=(wa.alloc (.cells dm 85)).drew) (A_ wa _) hQ.o hc;have u0:=rc0 hM;have u1:=rc1 hM;have u2:=rc2 hM;have u3:=rc3 hM;have u4:=ak hM 0;have u5:=ak hM 1;have u6:=ak hM 2;have u7:=ak hM 3))
  all_goals
   go_wp2_with fail;go_meet
   case rel=>first|exact Na (b:=⟨bk,bi,bn,bt⟩) hM hc hw.o|exact Nb (b:=⟨bk,bi,bn,bt⟩) hc hw.o
 case rest=>
  obtain⟨M,rfl,rfl,g3,HM,HB⟩:=hcut;obtain⟨w3,rfl⟩:∃z:World,z=wc:=⟨_,rfl⟩;clear v0 v1 v2 v3 v4 v5 v6 v7 y0 y1 y2 y3 y4 y5 y6 y7;obtain⟨_,_,_,v3,_,_,v6,v7⟩:=HC.o w3 HB.o;have b0:=rc0 HM.o;have b1:=rc1 HM.o;have b3:=rc3 HM.o;by_cases hE:E=0
  ·subst hE;by_cases hk2:bk=2
   ·subst hk2;by_cases hbi:bi=k
    ·subst hbi;go_wp2_with(go_at_call 89;refine(hJ.o _).mono ?_;rintro e w4 ⟨D,q,d,rfl,r4,he,hH⟩;have hF:=h_ (ah HM.o (ag HM.o) he);have hv:=h_ (HB.o.trans (he.mono HB.o.size));have R4:=h_ r4;have hG:=h_ hH;have g2:Hid (w3.heap.size≤w4.heap.size):=he.size;clear he r4 hH);have h8:=h_ (A_ w4 (.cells #[.int .i64 ik,.int .i64 ig,.int .i64 is,.slice D q d] 67));have hB:=h_ (cq hF.o (.cells #[.int .i64 ik,.int .i64 ig,.int .i64 is,.slice D q d] 67));have hq:=h_ (hv.o.alloc hv.o.size (.cells #[.int .i64 ik,.int .i64 ig,.int .i64 is,.slice D q d] 67));have R5:=h_ (iv R4.o (.cells #[.int .i64 ik,.int .i64 ig,.int .i64 is,.slice D q d] 67));clear v3 v6 v7 b0 b1 b3 R4 hF hv;generalize w4.alloc (.cells #[.int .i64 ik,.int .i64 ig,.int .i64 is,.slice D q d] 67)=w5 at*;obtain⟨_,_,_,v3,_,_,v6,v7⟩:=HC.o w5 hq.o;have t0:=rc0 h8.o;have t1:=rc1 h8.o;have t2:=rc2 h8.o;have t3:=rc3 h8.o;have b3:=rc3 hB.o;by_cases hie:ie=0
     ·subst hie;by_cases hig:ig=g
      ·subst hig;have hU:=h_ (hC.o (by simp));go_quiet(fail);obtain⟨w6,h0⟩:∃z,z=w5.drewN nq:=⟨_,rfl⟩;have v8:w6.heap[w.heap.size+1+1]?=some (.cells bf 67 (0,0)):=by rw [h0];exact v7.o
       have hh:Hid (w6.heap[w4.heap.size]?=some (.cells #[.int .i64 ik,.int .i64 ig,.int .i64 is,.slice D q d] 67 (0,0))):=by rw [h0];exact h8.o
       have hK:Hid (w6.heap[M]?=some (.cells #[.int .i64 2,.int .i64 k,.int .i64 bn,.string bt] 85 (0,0))):=by rw [h0];exact hB.o
       have ha:Hid (Below wa.heap.size wa w6):=by rw [h0];exact L9 hq.o nq
       have R6:Hid (ab w6 w6.heap.size D q d aa.cells 2 ip):=by rw [h0];exact R5.o.drewN nq
       rw [←h0];clear h0 t0 t1 t2 t3 b3 v3 v6;have hT:=h_ v8;have t0:=rc0 hh.o;have t1:=rc1 hh.o;have t2:=rc2 hh.o;have t3:=rc3 hh.o;have b3:=rc3 hK.o;have l0:=rc0 v8;have l1:=rc1 v8;have l2:=rc2 v8;have l3:=rc3 v8;have l4:=ak v8 0;have l5:=ak v8 1;have l6:=ak v8 2;have l7:=ak v8 3;have hA:Hid (w.heap.size+3≤w3.heap.size):=by have h1:=HB.o.size;have h2:=hw.o;simp only [Hid];omega
       clear v8;go_wp2_with fail;go_region_law(fail)
       all_goals
        have hm:=b9 (j:=3) (v:=.slice D q d) (b9 (j:=2) (v:=.int .i64 is) (b9 (j:=1) (v:=.int .i64 ig) (b9 (j:=0) (v:=.int .i64 ik) hT.o)));have hN:Hid (((((w6.setCell ⟨w.heap.size+1+1,0,none⟩ (.int .i64 ik)).setCell ⟨w.heap.size+1+1,1,none⟩ (.int .i64 ig)).setCell ⟨w.heap.size+1+1,2,none⟩ (.int .i64 is)).setCell ⟨w.heap.size+1+1,3,none⟩ (.slice D q d)).drew.heap[w.heap.size+1+1]?=some (.cells #[.int .i64 ik,.int .i64 ig,.int .i64 is,.slice D q d] 67 (0,0))):=hm;have h9:∀b o,D=some ⟨b,o,none⟩→0 <q→b≠w.heap.size+1+1:=fun b o e _ e2=>by have h1:=hG.o _ e;have h2:=hA.o;simp only at h1;omega
        have R9:Hid (ab ((((w6.setCell ⟨w.heap.size+1+1,0,none⟩ (.int .i64 ik)).setCell ⟨w.heap.size+1+1,1,none⟩ (.int .i64 ig)).setCell ⟨w.heap.size+1+1,2,none⟩ (.int .i64 is)).setCell ⟨w.heap.size+1+1,3,none⟩ (.slice D q d)).drew ((((w6.setCell ⟨w.heap.size+1+1,0,none⟩ (.int .i64 ik)).setCell ⟨w.heap.size+1+1,1,none⟩ (.int .i64 ig)).setCell ⟨w.heap.size+1+1,2,none⟩ (.int .i64 is)).setCell ⟨w.heap.size+1+1,3,none⟩ (.slice D q d)).drew.heap.size D q d aa.cells 2 ip):=
         ((dj (z:=3) (dj (z:=2) (dj (z:=1) (dj (z:=0) R6.o h9 _) h9 _) h9 _) h9 _).more (by simp [World.setCell])).drew
        have hW:Hid (Below w.heap.size w ((((w6.setCell ⟨w.heap.size+1+1,0,none⟩ (.int .i64 ik)).setCell ⟨w.heap.size+1+1,1,none⟩ (.int .i64 ig)).setCell ⟨w.heap.size+1+1,2,none⟩ (.int .i64 is)).setCell ⟨w.heap.size+1+1,3,none⟩ (.slice D q d)).drew):=(((((h3.o.trans (ha.o.mono h3.o.size)).setCell (p:=⟨w.heap.size+1+1,0,none⟩) (by simp only;omega) _).setCell (p:=⟨w.heap.size+1+1,1,none⟩) (by simp only;omega) _).setCell (p:=⟨w.heap.size+1+1,2,none⟩) (by simp only;omega) _).setCell (p:=⟨w.heap.size+1+1,3,none⟩) (by simp only;omega) _).drew;clear hm h9 l0 l1 l2 l3 l4 l5 l6 l7;generalize((((w6.setCell ⟨w.heap.size+1+1,0,none⟩ (.int .i64 ik)).setCell ⟨w.heap.size+1+1,1,none⟩ (.int .i64 ig)).setCell ⟨w.heap.size+1+1,2,none⟩ (.int .i64 is)).setCell ⟨w.heap.size+1+1,3,none⟩ (.slice D q d)).drew=w9 at*;go_wp2;refine bodyPost_ret (uw rfl _ _ (w.heap.size+1+1) _ #[.int .i64 ik,.int .i64 ig,.int .i64 is,.slice D q d] (0,0) _ rfl hN.o Tryz.underlying67 rfl du) rfl ?_;exact hU.o _ _ _ _ R9.o hW.o (fun a e=>by have h1:=hG.o a e;have h2:=hA.o;omega)
      ·have g1:(ig !=g)=true:=bN hig;go_quiet(fail);obtain⟨w6,h0⟩:∃z,z=w5.drewN nq:=⟨_,rfl⟩;have v8:w6.heap[w.heap.size+1+1]?=some (.cells bf 67 (0,0)):=by rw [h0];exact v7.o
       have ha:Hid (Below wa.heap.size wa w6):=by rw [h0];exact L9 hq.o nq
       rw [←h0];clear h0;go_wp2_with(refine wpList_store_rowTo rfl _ _ _ rfl rfl (w.heap.size+1+1) bf rfl rfl 67 bf v8 du rfl h7.o ?_);refine bodyPost_ret (uw rfl _ _ (w.heap.size+1+1) _ bf (0,0) _ rfl (bh v8) Tryz.underlying67 rfl du) rfl ?_;exact h6.o (fun h=>hig h.2.2.2.2) _ (below_setRow (h3.o.trans (ha.o.mono h3.o.size)) (by omega) _)
     ·have g1:(ie !=0)=true:=bN hie;go_quiet(fail);obtain⟨w6,h0⟩:∃z,z=w5.drewN nq:=⟨_,rfl⟩;have v8:w6.heap[w.heap.size+1+1]?=some (.cells bf 67 (0,0)):=by rw [h0];exact v7.o
      have ha:Hid (Below wa.heap.size wa w6):=by rw [h0];exact L9 hq.o nq
      rw [←h0];clear h0;go_wp2_with(refine wpList_store_rowTo rfl _ _ _ rfl rfl (w.heap.size+1+1) bf rfl rfl 67 bf v8 du rfl h7.o ?_);refine bodyPost_ret (uw rfl _ _ (w.heap.size+1+1) _ bf (0,0) _ rfl (bh v8) Tryz.underlying67 rfl du) rfl ?_;exact h6.o (fun h=>hie h.2.2.2.1) _ (below_setRow (h3.o.trans (ha.o.mono h3.o.size)) (by omega) _)
    ·have g1:(bi !=(k:Int))=true:=bN hbi;clear hbi;go_wp2_with(refine wpList_store_rowTo rfl _ _ _ rfl rfl (w.heap.size+1+1) bf rfl rfl 67 bf v7.o du rfl h7.o ?_);refine bodyPost_ret (uw rfl _ _ (w.heap.size+1+1) _ bf (0,0) _ rfl (bh v7.o) Tryz.underlying67 rfl du) rfl ?_;exact h6.o (fun h=>by have:=h.2.2.1;revert g1;rw [this];simp) _ (below_setRow (h3.o.trans (HB.o.mono h3.o.size)) (by omega) _)
   ·have g1:(bk !=2)=true:=bN hk2;go_wp2_with(refine wpList_store_rowTo rfl _ _ _ rfl rfl (w.heap.size+1+1) bf rfl rfl 67 bf v7.o du rfl h7.o ?_);refine bodyPost_ret (uw rfl _ _ (w.heap.size+1+1) _ bf (0,0) _ rfl (bh v7.o) Tryz.underlying67 rfl du) rfl ?_;exact h6.o (fun h=>hk2 h.2.1) _ (below_setRow (h3.o.trans (HB.o.mono h3.o.size)) (by omega) _)
  ·have g1:(E !=0)=true:=bN hE;go_wp2_with(refine wpList_store_rowTo rfl _ _ _ rfl rfl (w.heap.size+1+1) bf rfl rfl 67 bf v7.o du rfl h7.o ?_);refine bodyPost_ret (uw rfl _ _ (w.heap.size+1+1) _ bf (0,0) _ rfl (bh v7.o) Tryz.underlying67 rfl du) rfl ?_;exact h6.o (fun h=>hE h.1) _ (below_setRow (h3.o.trans (HB.o.mono h3.o.size)) (by omega) _)
theorem a0h(A:Option Addr)(n c:Nat)(cs:List ByteArray)(A':Option Addr)(n' c':Nat)(ws:List ae)(Am:Option Addr)(nm cm:Nat)(xs:List aa)(Ag:Option Addr)(ng cg:Nat)(gs:List Int)(k:Nat)(pc pn g:Int)(w:World)(r:ab w w.heap.size A n c (fun z=>[.string z]) 1 cs)(r':ab w w.heap.size A' n' c' ae.cells 2 ws)(rm:ab w w.heap.size Am nm cm aa.cells 2 xs)(rg:ab w w.heap.size Ag ng cg (fun z=>[.int .i64 z]) 1 gs)(hd:au cs ws=0)(hp:xs[k]?=some ⟨pc,pn⟩)(hg:gs[k]?=some g):Calls Tryz.prog 55 #[.agg #[.slice A n c,.slice A' n' c'],.agg #[.slice Am nm cm,.slice Ag ng cg],.int .i64 k] w (Z6 cs ws k ⟨pc,pn⟩ g w):=
 (Mz A n c cs A' n' c' ws Am nm cm xs Ag ng cg gs k pc pn g w r r' rm rg hd hp hg).mono fun _ _ h=>h.weak
end
end Go.Proofs.YtcldpfhpkbeaiadGreat
