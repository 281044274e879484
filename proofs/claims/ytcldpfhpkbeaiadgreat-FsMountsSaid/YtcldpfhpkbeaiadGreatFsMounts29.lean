/- A part of the proof of FsMounts. No condition of ours. -/
import Derived.Test.YtcldpfhpkbeaiadGreatFsMounts28
set_option maxRecDepth 100000
set_option maxHeartbeats 4000000
namespace Go.Proofs.YtcldpfhpkbeaiadGreat
section
open Go.RowKit Go.PlainAid
theorem s0k{ok:Prop}{sz:Int}{L:List ByteArray}{w:World}{f:FuncId}{args:Array Value}(h:Calls Tryz.prog f args w (Lv ok sz L w))(hok:ok):Calls Tryz.prog f args w fun e w'=>∃z:Int×Option Addr×Nat×Nat,e= .returned (.tuple #[.agg #[.int .i64 z.1,.slice z.2.1 z.2.2.1 z.2.2.2],.int .i64 0])∧DtQ True sz L w w' z.1 z.2.1 z.2.2.1 z.2.2.2:=by have e:ok=True:=eq_true hok;subst e;refine h.mono ?_;rintro _ _ ⟨⟨S,A,m,c,E⟩,e1,he,h2⟩;have h3:E=0:=he.1 trivial;subst h3;exact⟨(S,A,m,c),e1,h2⟩
theorem Yt(w:World)(a:Addr)(u:Value):(w.setCell a u).heap.size=w.heap.size:=by simp [World.setCell]
def sd(z:Int×Option Addr×Nat×Nat):Value:=.tuple #[.agg #[.int .i64 z.1,.slice z.2.1 z.2.2.1 z.2.2.2],.int .i64 0]
theorem w0t(b ob lo fb:Nat)(tO tf:TypeId)(cs:List ByteArray)(xs:List aa)(gs fr:List Int)(os:List OpD)(v:FsV)(w0:World)(items:List be)(A:Option Addr)(c:Nat)(n:Nat)(t P0:ByteArray)(x:be)(G:Int)(k:Nat)(D:Option Addr)(q d:Nat)(ps:List aa)(W:World)(hfs:FsT b cs [] xs gs fr os v W)(hd:au cs []=0)(hfb:W.heap[fb]?=some (.cells #[.pointer (some ⟨b,0,none⟩)] tf (0,0)))(hr:ab W W.heap.size D q d aa.cells 2 ps)(hs1:k≤4096)(hpl:ps.length=npt k)(hgo:i8 cs [] n k ps)(hda:fy k (ps.map (dtT cs []))=0)(hP:(t=⟨#[]⟩∧P0=⟨#[47]⟩)∨(t.toList.isEmpty=false∧P0=t))(hx:x.cells=[.string P0,.int .i64 1,.string (mkS (whB k 0 (ps.map (dtT cs []))))])(hI:ItI ob lo tO w0 items A c W)(hlen:items.length≤1000):Calls Tryz.prog 19 #[.int .i64 n,.string t,.agg #[.int .i64 1,.int .i64 G,.int .i64 k,.slice D q d],.pointer (some ⟨fb,0,none⟩),.pointer (some ⟨ob,0,none⟩)] W (se ob lo tO w0 W items A x):=by
 have hc:Hid (∀W',Below W.heap.size W W'→Calls Tryz.prog 20 #[.pointer (some ⟨b,0,none⟩),.int .i64 n,.agg #[.int .i64 1,.int .i64 G,.int .i64 k,.slice D q d]] W' fun e w'=>∃z:Int×Option Addr×Nat×Nat,e= .returned (.tuple #[.agg #[.int .i64 z.1,.slice z.2.1 z.2.2.1 z.2.2.2],.int .i64 0])∧DtQ True k (ps.map (dtT cs [])) W' w' z.1 z.2.1 z.2.2.1 z.2.2.2):=
  h_ fun W' hW=>s0k (Kj b cs [] xs gs fr os v n 1 G k D q d ps W' (hfs.below hW) hd ((hr.below hW).more hW.size) (by omega) (by omega) (by rw [hpl];simp)) hgo
 have he:Hid (∀Ax m cx W',ab W' W'.heap.size Ax m cx (fun z=>[.string z]) 1 (ps.map (dtT cs []))→Calls Tryz.prog 21 #[.agg #[.int .i64 k,.slice Ax m cx],.int .i64 0,.int .i64 k] W' fun e w'=>e= .returned (.tuple #[.string (mkS (whB k 0 (ps.map (dtT cs [])))),.int .i64 0])∧Below W'.heap.size W' w'):=h_ fun Ax m cx W' h=>by have h1:=V3 k Ax m cx (ps.map (dtT cs [])) 0 k W' h;unfold Lu at h1;rw [(Jq hda).1,(Jq hda).2]at h1;exact h1
 have G3:Hid (items.length+1≤maxLen∧(items.length+1)*40≤140737488355328):=by unfold maxLen Hid;omega
 have G4:Hid (0 <3):=by simp [Hid]
 have hC:Hid (∀w' A' c',ItI ob lo tO w0 (items++[x]) A' c' w'→FrI ob A W A' w'→se ob lo tO w0 W items A x (.returned (.bool true)) w'):=h_ fun w' A' c' h1 h2=>⟨rfl,A',c',h1,h2⟩
 have hE:Hid (∀W',ItI ob lo tO w0 items A c W'→ob+1≤W'.heap.size):=h_ fun W' h=>ag h.obox
 have hD:Hid (∀W',ItI ob lo tO w0 items A c W'→Value.ownBlock (.slice A items.length c)≠some ob):=h_ fun W' h e=>by have h1:ob+1≤ob:=(h.own.lt _ e).1;omega
 obtain⟨T,hT⟩:∃T,T=mkS (whB k 0 (ps.map (dtT cs []))):=⟨_,rfl⟩;rw [←hT]at hx he;have HX:=h_ hx;generalize se ob lo tO w0 W items A x=PP at*;generalize ps.map (dtT cs [])=Ls at*;clear hx hlen hT hda hgo hpl hr hfs hd;rcases hP with⟨rfl,rfl⟩|⟨g2,rfl⟩
 ·have h8:Below W.heap.size W ((W.alloc (.cells #[.int .i64 1,.int .i64 G,.int .i64 k,.slice D q d] 67)).alloc (.cells #[.string ⟨#[47]⟩,.int .i64 1,.string ⟨#[]⟩] 35)):=(br.alloc ler _).alloc (by simp) _;have h4:((W.alloc (.cells #[.int .i64 1,.int .i64 G,.int .i64 k,.slice D q d] 67)).alloc (.cells #[.string ⟨#[47]⟩,.int .i64 1,.string ⟨#[]⟩] 35)).heap[W.heap.size]?=some (.cells #[.int .i64 1,.int .i64 G,.int .i64 k,.slice D q d] 67 (0,0)):=cq (A_ W _) _;have hk:((W.alloc (.cells #[.int .i64 1,.int .i64 G,.int .i64 k,.slice D q d] 67)).alloc (.cells #[.string ⟨#[47]⟩,.int .i64 1,.string ⟨#[]⟩] 35)).heap[W.heap.size+1]?=some (.cells #[.string ⟨#[47]⟩,.int .i64 1,.string ⟨#[]⟩] 35 (0,0)):=pd W _ _;have k0:=rc0 h4;have k1:=rc1 h4;have k2:=rc2 h4;have k3:=rc3 h4;have k4:=rc0 (ah hfb (ag hfb) h8);have y:=cq h4 (.cells cz 69);have y0:=rc0 y;have y1:=rc1 y;have y2:=rc2 y;have y3:=rc3 y;have y4:(((W.alloc (.cells #[.int .i64 1,.int .i64 G,.int .i64 k,.slice D q d] 67)).alloc (.cells #[.string ⟨#[47]⟩,.int .i64 1,.string ⟨#[]⟩] 35)).alloc (.cells cz 69)).cell? ⟨fb,0,none⟩=some (.pointer (some ⟨b,0,none⟩)):=aj (cq (ah hfb (ag hfb) h8) _) 0;have G2:Hid (∀u∈(#[.string ⟨#[47]⟩,.int .i64 1,.string T]:Array Value).toList,u.oneCell'=true):=by simp [Hid,Value.oneCell']
  have hF:ob <W.heap.size:=ag hI.obox;have HI:=h_ hI;have h0:=h_ h8;have hs:=h_ hk;clear h8 h4 hk hI y hfb;go_enter Tryz.func19,Tryz.ntmps19;go_wp2;generalize((W.alloc (.cells #[.int .i64 1,.int .i64 G,.int .i64 k,.slice D q d] 67)).alloc (.cells #[.string ⟨#[47]⟩,.int .i64 1,.string ⟨#[]⟩] 35))=wa at*;have ht:Hid (Below wa.heap.size wa (wa.alloc (.cells cz 69)).drew):=(br.alloc ler _).drew;have hu:Hid (wa.heap.size < (wa.alloc (.cells cz 69)).drew.heap.size):=by simp only [Hid];show wa.heap.size < (wa.alloc (.cells cz 69)).heap.size;simp
  have hf:=h_ (hc.o wa.drew (h0.o.trans (br.drew.mono h0.o.size)));have hn:=h_ (hc.o (wa.alloc (.cells cz 69)).drew (h0.o.trans (ht.o.mono h0.o.size)));clear hc;go_cut [10] (fun s10 wx=>DmI 69 True k Ls wa s10 wx)
  case first=>
   go_region_law(first
    |(refine eh rfl 20 rfl #[.pointer (some ⟨b,0,none⟩),.int .i64 n,.agg #[.int .i64 1,.int .i64 G,.int .i64 k,.slice D q d]] sd (by simp [go_sem]) hf.o ?_;rintro⟨S,Ax,m,cx⟩ w5 h6;have h5:=A_ w5 (.cells cz 69);have u0:=rc0 h5;have u1:=rc1 h5;have u4:=ak h5 0;have u5:=ak h5 1;simp only [sd])
    |(refine eh rfl 20 rfl #[.pointer (some ⟨b,0,none⟩),.int .i64 n,.agg #[.int .i64 1,.int .i64 G,.int .i64 k,.slice D q d]] sd (by simp [go_sem]) hn.o ?_;rintro⟨S,Ax,m,cx⟩ w5 h6;have hM:=ah (w:=(wa.alloc (.cells cz 69)).drew) (A_ wa _) hu.o h6.1;have u0:=rc0 hM;have u1:=rc1 hM;have u4:=ak hM 0;have u5:=ak hM 1;simp only [sd]))
   all_goals
    go_wp2_with fail;go_meet
    case rel=>first|exact A7 hM h6|exact A9 h6
  case rest=>
   rename World=>wx
   obtain⟨S,Ax,m,cx,M,rfl,hM,HM,HQ⟩:=hcut
   obtain⟨rfl,hh⟩:S=k∧ab wx wx.heap.size Ax m cx (fun z=>[.string z]) 1 Ls:=by
    rcases HQ.o.2.2 with h|h
    ·exact h.2
    ·exact absurd trivial h.1
   have hw:=h_ (he.o Ax m cx wx hh);have hg:=h_ (h0.o.trans (HQ.o.1.mono h0.o.size));have hp:=h_ (ah hs.o (ag hs.o) HQ.o.1);have a0:=rc0 HM.o;have a1:=rc1 HM.o;clear k0 k1 k2 k3 k4 y0 y1 y2 y3 y4 hf hn hh hM HM HQ he
   go_wp2_with(first
    |(at_builtin;refine dx (size:=3) (bytes:=40) (base:=ob+1) (H:=w3.heap.size) (news:= #[.string ⟨#[47]⟩,.int .i64 1,.string T]) rfl rfl Tryz.underlying30 t8 rfl G4.o h3.o.own rfl (hE.o _ h3.o) rfl hy.o rfl G2.o G3.o.1 G3.o.2 ?_;intro A3 c3 w4 hv hj hA;have hq:=dw h3.o.obox hj (hD.o _ h3.o);have q1:=aj hq 0;have q2:=ak hq 0)
    |(go_at_call 21;refine hw.o.mono ?_;rintro e w3 ⟨rfl,ha⟩;have hB:=h_ (hg.o.trans (ha.mono hg.o.size));have h7:=ah hp.o (ag hp.o) ha;have r0:=aj h7 2;have r1:=ak h7 2;have h9:=b9 (j:=2) (v:=.string T) h7;have r2:=aj h9 0;have r3:=aj h9 1;have r4:=aj h9 2;have hm:Hid (Below W.heap.size W (w3.setCell ⟨W.heap.size+1,2,none⟩ (.string T))):=h_ (hB.o.setCell (p:=⟨W.heap.size+1,2,none⟩) (Nat.le_succ _) _);have h3:=h_ (HI.o.go hm.o);have hz:=h_ (FrI.of_below (ob:=ob) (A:=A) hm.o);have hy:Hid ((w3.setCell ⟨W.heap.size+1,2,none⟩ (.string T)).heap.size=w3.heap.size):=h_ (Yt _ _ _);have o0:=rc0 h3.o.obox;clear ha h7))
   have HA:=h3.o.add (x:=x) (by rw [HX.o];exact hv) hj hA;have HZ:=hC.o _ _ _ HA.1 (hz.o.trans HA.2)
   first|exact HZ|(go_ret;exact HZ)|(go_ret2;exact HZ)
 ·have h8:Below W.heap.size W ((W.alloc (.cells #[.int .i64 1,.int .i64 G,.int .i64 k,.slice D q d] 67)).alloc (.cells #[.string P0,.int .i64 1,.string ⟨#[]⟩] 35)):=(br.alloc ler _).alloc (by simp) _;have h4:((W.alloc (.cells #[.int .i64 1,.int .i64 G,.int .i64 k,.slice D q d] 67)).alloc (.cells #[.string P0,.int .i64 1,.string ⟨#[]⟩] 35)).heap[W.heap.size]?=some (.cells #[.int .i64 1,.int .i64 G,.int .i64 k,.slice D q d] 67 (0,0)):=cq (A_ W _) _;have hk:((W.alloc (.cells #[.int .i64 1,.int .i64 G,.int .i64 k,.slice D q d] 67)).alloc (.cells #[.string P0,.int .i64 1,.string ⟨#[]⟩] 35)).heap[W.heap.size+1]?=some (.cells #[.string P0,.int .i64 1,.string ⟨#[]⟩] 35 (0,0)):=pd W _ _;have k0:=rc0 h4;have k1:=rc1 h4;have k2:=rc2 h4;have k3:=rc3 h4;have k4:=rc0 (ah hfb (ag hfb) h8);have y:=cq h4 (.cells cz 69);have y0:=rc0 y;have y1:=rc1 y;have y2:=rc2 y;have y3:=rc3 y;have y4:(((W.alloc (.cells #[.int .i64 1,.int .i64 G,.int .i64 k,.slice D q d] 67)).alloc (.cells #[.string P0,.int .i64 1,.string ⟨#[]⟩] 35)).alloc (.cells cz 69)).cell? ⟨fb,0,none⟩=some (.pointer (some ⟨b,0,none⟩)):=aj (cq (ah hfb (ag hfb) h8) _) 0;have G2:Hid (∀u∈(#[.string P0,.int .i64 1,.string T]:Array Value).toList,u.oneCell'=true):=by simp [Hid,Value.oneCell']
  have hF:ob <W.heap.size:=ag hI.obox;have HI:=h_ hI;have h0:=h_ h8;have hs:=h_ hk;clear h8 h4 hk hI y hfb;go_enter Tryz.func19,Tryz.ntmps19;go_wp2;generalize((W.alloc (.cells #[.int .i64 1,.int .i64 G,.int .i64 k,.slice D q d] 67)).alloc (.cells #[.string P0,.int .i64 1,.string ⟨#[]⟩] 35))=wa at*;have ht:Hid (Below wa.heap.size wa (wa.alloc (.cells cz 69)).drew):=(br.alloc ler _).drew;have hu:Hid (wa.heap.size < (wa.alloc (.cells cz 69)).drew.heap.size):=by simp only [Hid];show wa.heap.size < (wa.alloc (.cells cz 69)).heap.size;simp
  have hf:=h_ (hc.o wa.drew (h0.o.trans (br.drew.mono h0.o.size)));have hn:=h_ (hc.o (wa.alloc (.cells cz 69)).drew (h0.o.trans (ht.o.mono h0.o.size)));clear hc;go_cut [10] (fun s10 wx=>DmI 69 True k Ls wa s10 wx)
  case first=>
   go_region_law(first
    |(refine eh rfl 20 rfl #[.pointer (some ⟨b,0,none⟩),.int .i64 n,.agg #[.int .i64 1,.int .i64 G,.int .i64 k,.slice D q d]] sd (by simp [go_sem]) hf.o ?_;rintro⟨S,Ax,m,cx⟩ w5 h6;have h5:=A_ w5 (.cells cz 69);have u0:=rc0 h5;have u1:=rc1 h5;have u4:=ak h5 0;have u5:=ak h5 1;simp only [sd])
    |(refine eh rfl 20 rfl #[.pointer (some ⟨b,0,none⟩),.int .i64 n,.agg #[.int .i64 1,.int .i64 G,.int .i64 k,.slice D q d]] sd (by simp [go_sem]) hn.o ?_;rintro⟨S,Ax,m,cx⟩ w5 h6;have hM:=ah (w:=(wa.alloc (.cells cz 69)).drew) (A_ wa _) hu.o h6.1;have u0:=rc0 hM;have u1:=rc1 hM;have u4:=ak hM 0;have u5:=ak hM 1;simp only [sd]))
   all_goals
    go_wp2_with fail;go_meet
    case rel=>first|exact A7 hM h6|exact A9 h6
  case rest=>
   rename World=>wx
   obtain⟨S,Ax,m,cx,M,rfl,hM,HM,HQ⟩:=hcut
   obtain⟨rfl,hh⟩:S=k∧ab wx wx.heap.size Ax m cx (fun z=>[.string z]) 1 Ls:=by
    rcases HQ.o.2.2 with h|h
    ·exact h.2
    ·exact absurd trivial h.1
   have hw:=h_ (he.o Ax m cx wx hh);have hg:=h_ (h0.o.trans (HQ.o.1.mono h0.o.size));have hp:=h_ (ah hs.o (ag hs.o) HQ.o.1);have a0:=rc0 HM.o;have a1:=rc1 HM.o;clear k0 k1 k2 k3 k4 y0 y1 y2 y3 y4 hf hn hh hM HM HQ he
   go_wp2_with(first
    |(at_builtin;refine dx (size:=3) (bytes:=40) (base:=ob+1) (H:=w3.heap.size) (news:= #[.string P0,.int .i64 1,.string T]) rfl rfl Tryz.underlying30 t8 rfl G4.o h3.o.own rfl (hE.o _ h3.o) rfl hy.o rfl G2.o G3.o.1 G3.o.2 ?_;intro A3 c3 w4 hv hj hA;have hq:=dw h3.o.obox hj (hD.o _ h3.o);have q1:=aj hq 0;have q2:=ak hq 0)
    |(go_at_call 21;refine hw.o.mono ?_;rintro e w3 ⟨rfl,ha⟩;have hB:=h_ (hg.o.trans (ha.mono hg.o.size));have h7:=ah hp.o (ag hp.o) ha;have r0:=aj h7 2;have r1:=ak h7 2;have h9:=b9 (j:=2) (v:=.string T) h7;have r2:=aj h9 0;have r3:=aj h9 1;have r4:=aj h9 2;have hm:Hid (Below W.heap.size W (w3.setCell ⟨W.heap.size+1,2,none⟩ (.string T))):=h_ (hB.o.setCell (p:=⟨W.heap.size+1,2,none⟩) (Nat.le_succ _) _);have h3:=h_ (HI.o.go hm.o);have hz:=h_ (FrI.of_below (ob:=ob) (A:=A) hm.o);have hy:Hid ((w3.setCell ⟨W.heap.size+1,2,none⟩ (.string T)).heap.size=w3.heap.size):=h_ (Yt _ _ _);have o0:=rc0 h3.o.obox;clear ha h7))
   have HA:=h3.o.add (x:=x) (by rw [HX.o];exact hv) hj hA;have HZ:=hC.o _ _ _ HA.1 (hz.o.trans HA.2)
   first|exact HZ|(go_ret;exact HZ)|(go_ret2;exact HZ)
end
section
open Go.RowKit
def kh(seen:List Nat):Array Value:=((List.range 48).map fun i=>Value.int .i64 (if i∈seen then 1 else 0)).toArray
theorem yk(seen:List Nat):(kh seen).size=48:=by simp [kh]
theorem un{seen:List Nat}{n:Nat}(hn:n <48):(kh seen)[n]?=some (.int .i64 (if n∈seen then 1 else 0)):=by simp [kh,hn]
theorem d0j{seen:List Nat}{n:Nat}:(kh seen).setIfInBounds n (.int .i64 1)=kh (n::seen):=by
 apply Array.ext_getElem?;intro i;rw [Array.getElem?_setIfInBounds];by_cases hi:i <48
 ·rw [un (seen:=n::seen) hi];by_cases he:n=i
  ·subst he;rw [if_pos rfl,if_pos (by rw [yk];exact hi)];simp
  ·rw [if_neg he,un hi];have:(i∈n::seen)↔i∈seen:=by simp [Ne.symm he]
   simp [this]
 ·have e1:(kh seen)[i]?=none:=Array.getElem?_eq_none (by rw [yk];omega);have e2:(kh (n::seen))[i]?=none:=Array.getElem?_eq_none (by rw [yk];omega);rw [e1,e2];split
  ·split
   ·rename_i h;rw [yk]at h;omega
   ·rfl
  ·rfl
theorem d0h{seen:List Nat}{j:Nat}{u:Value}(h:(kh seen)[j]?=some u):∃z,u= .int .i64 z:=by
 have hj:j <48:=by have:=(Array.getElem?_eq_some_iff.1 h).1;rw [yk]at this;exact this
 rw [un hj]at h;injection h with h;exact⟨_,h.symm⟩
structure WhB where
 b:Nat
 fb:Nat
 sb:Nat
 vb:Nat
 lo:Nat
abbrev WhB.fn(B:WhB):Value:=.func (.func 28) #[] #[.pointer (some ⟨B.fb,0,none⟩),.pointer (some ⟨B.sb,0,none⟩),.pointer (some ⟨B.vb,0,none⟩)]
structure WhS(B:WhB)(tf tv ts:TypeId)(cs:List ByteArray)(xs:List aa)(gs fr:List Int)(os:List OpD)(v:FsV)(w0:World)(seen:List Nat)(W:World):Prop where
 fs:FsT B.b cs [] xs gs fr os v W
 below:Below B.lo w0 W
 fbox:W.heap[B.fb]?=some (.cells #[.pointer (some ⟨B.b,0,none⟩)] tf (0,0))
 vbox:W.heap[B.vb]?=some (.cells #[B.fn] tv (0,0))
 sbox:W.heap[B.sb]?=some (.cells (kh seen) ts (0,0))
 los:B.lo≤B.sb
 nb:B.b≠B.sb
 nf:B.fb≠B.sb
 nv:B.vb≠B.sb
 far:xx v B.sb
 no:(Value.slice v.oA v.on v.oc).ownBlock≠some B.sb
 nr:(Value.slice v.fA v.fn v.fc).ownBlock≠some B.sb
section
variable {B:WhB} {tf tv ts:TypeId} {cs:List ByteArray} {xs:List aa} {gs fr:List Int} {os:List OpD} {v:FsV} {w0 W W':World} {seen:List Nat}
theorem WhS.go(h:WhS B tf tv ts cs xs gs fr os v w0 seen W)(hb:Below W.heap.size W W'):WhS B tf tv ts cs xs gs fr os v w0 seen W':=
 {fs:=h.fs.below hb,below:=h.below.trans (hb.mono (by have:=ag h.sbox;have:=h.los;omega)),fbox:=ah h.fbox (ag h.fbox) hb,vbox:=ah h.vbox (ag h.vbox) hb,sbox:=ah h.sbox (ag h.sbox) hb
  los:=h.los,nb:=h.nb,nf:=h.nf,nv:=h.nv,far:=h.far,no:=h.no,nr:=h.nr}
theorem WhS.alloc(h:WhS B tf tv ts cs xs gs fr os v w0 seen W)(o:Obj):WhS B tf tv ts cs xs gs fr os v w0 seen (W.alloc o):=h.go (br.alloc ler o)
theorem WhS.mark(h:WhS B tf tv ts cs xs gs fr os v w0 seen W)(n:Nat):WhS B tf tv ts cs xs gs fr os v w0 (n::seen) (W.setCell ⟨B.sb,n,none⟩ (.int .i64 1)):=
 {fs:=h.fs.other (Ne.symm h.nb) h.far h.no h.nr n _,below:=h.below.setCell (p:=⟨B.sb,n,none⟩) h.los _,fbox:=cp h.fbox h.nf,vbox:=cp h.vbox h.nv
  sbox:=by have:=b9 (j:=n) (v:=.int .i64 1) h.sbox;rw [d0j]at this;exact this
  los:=h.los,nb:=h.nb,nf:=h.nf,nv:=h.nv,far:=h.far,no:=h.no,nr:=h.nr}
theorem WhS.ents(h:WhS B tf tv ts cs xs gs fr os v w0 seen W){A:Option Addr}{m c N:Nat}{L:List ay}(hr:ab W N A m c ay.cells 2 L):da A m B.sb:=fun a ha hm e=>by have hl:=hr.len;obtain⟨x,hx⟩:∃x,L[0]?=some x:=⟨_,gE (by omega)⟩;obtain⟨g,o,e2,_,hc⟩:=hr.at_ 0 x hx;rw [e2]at ha;injection ha with ha;subst ha;have e:g=B.sb:=e;subst e;have:=hc 0 _ rfl;rw [aj h.sbox]at this;obtain⟨z,hz⟩:=d0h this;cases hz
end
structure Frm(g:Nat)(W W':World):Prop where
 size:W.heap.size≤W'.heap.size
 block:∀k,k <W.heap.size→k≠g→W'.heap[k]?=W.heap[k]?
theorem Frm.of_below{g:Nat}{W W':World}(h:Below W.heap.size W W'):Frm g W W':=⟨h.size,fun k hk _=>h.block k hk⟩
theorem Frm.trans{g:Nat}{W W1 W2:World}(h:Frm g W W1)(h2:Frm g W1 W2):Frm g W W2:=⟨Nat.le_trans h.size h2.size,fun k hk hg=>(h2.block k (Nat.lt_of_lt_of_le hk h.size) hg).trans (h.block k hk hg)⟩
theorem Frm.cell{g:Nat}{W W1:World}(h:Frm g W W1)(n:Nat)(u:Value):Frm g W (W1.setCell ⟨g,n,none⟩ u):=⟨by have:=h.size;simpa [World.setCell]using this,fun k hk hg=>(Below.heap_setCell _ _ _ _ hg).trans (h.block k hk hg)⟩
theorem ab.frm{α:Type}{enc:α→List Value}{k n c N g:Nat}{A:Option Addr}{xs:List α}{W W':World}(r:ab W N A n c enc k xs)(h:Frm g W W')(hf:da A n g)(hN:N≤W.heap.size):ab W' N A n c enc k xs:=
 r.far_keep fun b ⟨_,e,h0⟩ hb=>h.block b (Nat.lt_of_lt_of_le hb hN) (hf _ e h0)
def pg(B:WhB)(tf tv ts:TypeId)(cs:List ByteArray)(xs:List aa)(gs fr:List Int)(os:List OpD)(v:FsV)(w0 W:World)(r:Option (List Nat×List be))(e:Ending)(w':World):Prop:=
 (r=none∧e= .returned (.bool false)∧Below B.lo w0 w')∨(∃s l,r=some (s,l)∧e= .returned (.bool true)∧WhS B tf tv ts cs xs gs fr os v w0 s w'∧Frm B.sb W w')
theorem X8:∀(args:Array Value) (W:World),(callFunc 28 args).run Tryz.prog W= .ok (.enter 28 args) W:=fun args W=>by kernel_rfl
end
end Go.Proofs.YtcldpfhpkbeaiadGreat
