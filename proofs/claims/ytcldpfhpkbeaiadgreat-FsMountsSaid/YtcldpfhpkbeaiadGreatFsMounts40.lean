/- A part of the proof of FsMounts. No condition of ours. -/
import Derived.Test.YtcldpfhpkbeaiadGreatFsMounts39
set_option maxRecDepth 100000
set_option maxHeartbeats 4000000
namespace Go.Proofs.YtcldpfhpkbeaiadGreat
section
open Go.RowKit
theorem p0b:(Tryz.prog.info? 104).map (fun i=>(i.zero,i.size,i.bytes))=some (some (.agg #[.int .i64 0,.int .i64 0,.string ⟨#[]⟩]),3,32):=by kernel_rfl
def x0s(b:Nat)(cs:List ByteArray)(ws:List ae)(xs:List aa)(gs fr:List Int)(os:List OpD)(v:FsV)(w:World)(e:Ending)(w':World):Prop:=
 ∃v',e= .returned (.tuple #[])∧FsT b cs ws xs gs fr os v' w'∧v'.ser=v.ser∧v'.tur=v.tur∧v'.fn=v.fn∧v'.on=v.on+1∧Below b w w'
noncomputable def doX(cs:List ByteArray)(ws:List ae)(o:OpD):List ByteArray:=if o.Kind=1 then wrX cs ws o.At o.Text else my ia cs ws
noncomputable def doY(cs:List ByteArray)(ws:List ae)(o:OpD):List ae:=if o.Kind=1 then wrY cs ws o.At o.Text else []
def DoM(b:Nat)(cs:List ByteArray)(ws:List ae)(xs:List aa)(gs fr:List Int)(os:List OpD)(v:FsV)(o:OpD)(w wx:World):Prop:=
 ∃v1,FsT b cs ws xs gs fr os v1 wx∧v1.ser=v.ser∧v1.tur=v.tur∧v1.fn=v.fn∧v1.on=v.on∧Below b w wx∧wx.heap[w.heap.size]?=some (.cells #[.int .i64 o.Kind,.int .i64 o.At,.string o.Text] 104 (0,0))
theorem Vz{b:Nat}{cs X:List ByteArray}{ws Y:List ae}{xs:List aa}{gs fr:List Int}{os:List OpD}{v:FsV}{o:OpD}{w wa w2:World}{D D':Option Addr}{q d q' d':Nat}(h:FsT b cs ws xs gs fr os v wa)(hbl:b <w.heap.size)(hba:Below w.heap.size w wa)(hob:wa.heap[w.heap.size]?=some (.cells #[.int .i64 o.Kind,.int .i64 o.At,.string o.Text] 104 (0,0)))(hb:Below wa.heap.size wa w2)(hc:ab w2 w2.heap.size D q d (fun z=>[.string z]) 1 X)(hw:ab w2 w2.heap.size D' q' d' ae.cells 2 Y)(f1:∀a,D=some a→wa.heap.size≤a.block)(f2:∀a,D'=some a→wa.heap.size≤a.block):DoM b X Y xs gs fr os v o w ((w2.setCell ⟨b,0,none⟩ (.slice D q d)).setCell ⟨b,1,none⟩ (.slice D' q' d')):=by
 have h2:=h.below hb;have h0:∀g,g <wa.heap.size→da D q g∧da D' q' g:=fun g hg=>⟨da.of_new f1 hg,da.of_new f2 hg⟩
 have h3:=h2.disk hc hw (fun g hg=>by
 rcases hg with rfl|hg|hg
 ·exact h0 _ h.lt
 ·exact h0 _ (h.oo.lt g hg).2
 ·exact h0 _ (h.of.lt g hg).2)
 refine⟨_,h3,rfl,rfl,rfl,rfl,?_,?_⟩
 ·exact(((hba.mono (Nat.le_of_lt hbl)).trans (hb.mono (by have:=hba.size;omega))).setCell (p:=⟨b,0,none⟩) ler _).setCell (p:=⟨b,1,none⟩) ler _
 ·exact cp (cp (ah hob (ag hob) hb) (by show w.heap.size≠b;omega)) (by show w.heap.size≠b;omega)
theorem Kb(b:Nat)(cs:List ByteArray)(ws:List ae)(xs:List aa)(gs fr:List Int)(os:List OpD)(v:FsV)(o:OpD)(w:World)(hk:o.Kind=1∨o.Kind=2)(h:FsT b cs ws xs gs fr os v w)(hon:v.on≤1000000):Calls Tryz.prog 32 #[.pointer (some ⟨b,0,none⟩),.agg #[.int .i64 o.Kind,.int .i64 o.At,.string o.Text]] w (x0s b (doX cs ws o) (doY cs ws o) xs gs fr (os++[o]) v w):=by
 obtain⟨K,a,t⟩:=o;simp only at hk⊢;obtain⟨wa,h7⟩:∃wa,wa=w.alloc (.cells #[.int .i64 K,.int .i64 a,.string t] 104):=⟨_,rfl⟩;have ha:FsT b cs ws xs gs fr os v wa:=by rw [h7];exact h.alloc _
 have hq:=h.lt;have hx:Below w.heap.size w wa:=by rw [h7];exact br.alloc ler _
 have hd:wa.heap[w.heap.size]?=some (.cells #[.int .i64 K,.int .i64 a,.string t] 104 (0,0)):=by rw [h7];exact A_ w _
 have HA:=h_ ha;have h8:=h_ hd;have hf:=h_ hx;have hs:=h_ h7;have hz:=h_ hon;have o0:=aj hd 0;clear h ha hx hd h7 hon;obtain⟨X,hX⟩:∃X,doX cs ws ⟨K,a,t⟩=X:=⟨_,rfl⟩;obtain⟨Y,hY⟩:∃Y,doY cs ws ⟨K,a,t⟩=Y:=⟨_,rfl⟩;rw [hX,hY];have HX:=h_ hX;have HY:=h_ hY;clear hX hY;go_enter Tryz.func32,Tryz.ntmps32;go_upto_block 0 with fail;rw [←hs.o];clear hs;go_cut [] (fun wx=>DoM b X Y xs gs fr os v ⟨K,a,t⟩ w wx)
 case first=>
  have c0:=aj HA.o.box 0;have c1:=aj HA.o.box 1;have h0:=HA.o.lt;rcases hk with rfl|rfl
  ·have HD:Hid (Calls Tryz.prog 60 #[.agg #[.slice v.cA v.cn v.cc,.slice v.wA v.wn v.wc],.int .i64 a,.string t] wa.drew fun e w'=>∃z:Option Addr×Nat×Nat×Option Addr×Nat×Nat,e= .returned (.tuple #[.agg #[.slice z.1 z.2.1 z.2.2.1,.slice z.2.2.2.1 z.2.2.2.2.1 z.2.2.2.2.2],.int .i64 (wrE cs ws a t)])∧(ab w' w'.heap.size z.1 z.2.1 z.2.2.1 (fun z=>[.string z]) 1 X∧ab w' w'.heap.size z.2.2.2.1 z.2.2.2.2.1 z.2.2.2.2.2 ae.cells 2 Y∧Below wa.heap.size wa w'∧(∀a,z.1=some a→wa.heap.size≤a.block)∧(∀a,z.2.2.2.1=some a→wa.heap.size≤a.block))):=by rw [←HX.o,←HY.o];refine(s0h v.cA v.cn v.cc cs v.wA v.wn v.wc ws a t wa.drew HA.o.drew.rc HA.o.drew.rw').mono ?_;rintro e w' ⟨D,q,d,D',q',d',h1,h2,h3,h4,h5,h6⟩;exact⟨(D,q,d,D',q',d'),h1,by simpa [doX]using h2,by simpa [doY]using h3,br.drew.trans h4,h5,h6⟩
   have o1:=aj h8.o 1;have o2:=aj h8.o 2;have hE:b≠w.heap.size:=by omega
   generalize wrE cs ws a t=E at*;clear HX HY;go_wp2;go_region_law(refine eh rfl 60 rfl #[.agg #[.slice v.cA v.cn v.cc,.slice v.wA v.wn v.wc],.int .i64 a,.string t] (fun z:Option Addr×Nat×Nat×Option Addr×Nat×Nat=>Value.tuple #[.agg #[.slice z.1 z.2.1 z.2.2.1,.slice z.2.2.2.1 z.2.2.2.2.1 z.2.2.2.2.2],.int .i64 E]) (by simp [go_sem]) HD.o ?_;rintro⟨D,q,d,D',q',d'⟩ w2 ⟨h2,h3,h4,h5,h6⟩;have b0:=aj (ah HA.o.box h0 h4) 0;have b1:=aj (ah HA.o.box h0 h4) 1;have f0:=ak (ah HA.o.box h0 h4) 0;have f1:=ak (ah HA.o.box h0 h4) 1)
   all_goals
    go_wp2;go_meet
    case rel=>exact Vz HA.o hq hf.o h8.o h4 h2 h3 h5 h6
  ·have HD:Hid (Calls Tryz.prog 61 #[.agg #[.slice v.cA v.cn v.cc,.slice v.wA v.wn v.wc]] wa (xr ia cs ws wa)):=b0h v.cA v.cn v.cc cs v.wA v.wn v.wc ws wa HA.o.rc HA.o.rw';unfold xr at HD;have hn:Hid (my ia cs ws=X):=h_ (by have:=HX.o;simpa [doX]using this);have hA:Hid ([]=Y):=h_ (by have:=HY.o;simpa [doY]using this.symm);rw [hn.o]at HD;generalize au cs ws=E at*;clear HX HY hn;go_wp2_with(go_at_call 61;refine HD.o.mono ?_;rintro e w2 ⟨D,q,d,rfl,h2,h4,h5⟩;have b0:=aj (ah HA.o.box h0 h4) 0;have b1:=aj (ah HA.o.box h0 h4) 1;have f0:=ak (ah HA.o.box h0 h4) 0;have f1:=ak (ah HA.o.box h0 h4) 1;have H2:=h_ h2;have H4:=h_ h4;have H5:=h_ h5;clear h2 h4 h5);go_meet
   case rel=>exact Vz HA.o hq hf.o h8.o H4.o H2.o (by rw [←hA.o];exact Ig _ _) H5.o (fun a ha=>by cases ha)
 case rest=>
  rename World=>wx
  obtain⟨v1,h1,hp,hv,hh,hw,hg,h9⟩:=hcut;have he:=h_ h1;have hB:=h_ hg;have hr:=h_ hw;have HK:Hid (v1.ser=v.ser∧v1.tur=v.tur∧v1.fn=v.fn):=⟨hp,hv,hh⟩;have o0:=aj h9 0;have o1:=aj h9 1;have o2:=aj h9 2;have c0:=aj h1.box 7;have f0:=ak h1.box 7;have hC:=h1.lt;clear h1 hg hw hp hv hh h9;have GO:Hid (af (wx.alloc (.cells #[.int .i64 K,.int .i64 a,.string t] 104)).drew (b+1) 3 (.slice v1.oA v1.on v1.oc) v1.on (os.flatMap OpD.cells)):=(he.o.oo.alloc _).drew;have GB:Hid (b+1≤(wx.alloc (.cells #[.int .i64 K,.int .i64 a,.string t] 104)).drew.heap.size):=h_ (by simp;omega);have GH:Hid ((wx.alloc (.cells #[.int .i64 K,.int .i64 a,.string t] 104)).drew.heap[wx.heap.size]?=some (.cells #[.int .i64 K,.int .i64 a,.string t] 104)):=A_ wx _;have G2:Hid (∀u∈(#[.int .i64 K,.int .i64 a,.string t]:Array Value).toList,u.oneCell'=true):=by simp [Hid,Value.oneCell']
  have G3:Hid (v1.on+1≤maxLen∧(v1.on+1)*32≤140737488355328):=by have:=hr.o;have:=hz.o;unfold maxLen Hid;omega
  have G4:Hid (0 <3):=by simp [Hid]
  have GA:Hid (FsT b X Y xs gs fr os v1 (wx.alloc (.cells #[.int .i64 K,.int .i64 a,.string t] 104)).drew):=(he.o.alloc _).drew;have GZ:Hid (Below b w (wx.alloc (.cells #[.int .i64 K,.int .i64 a,.string t] 104)).drew):=(hB.o.alloc (Nat.le_of_lt hC) _).drew;have ht:(Value.slice v1.oA v1.on v1.oc).ownBlock≠some b:=fun e=>by have h1:b+1≤b:=(he.o.oo.lt _ e).1;omega
  go_wp2;go_region_law(refine oh (P:=Tryz.prog) (e:=104) (z:=.agg #[.int .i64 0,.int .i64 0,.string ⟨#[]⟩]) (size:=3) (bytes:=32) (base:=b+1) rfl (.tmp 40) (.tmp 42) 51 rfl Tryz.underlying51 p0b rfl G4.o v1.oA v1.on v1.oc (os.flatMap OpD.cells) (by simp [go_sem]) GO.o GB.o wx.heap.size 1 #[.int .i64 K,.int .i64 a,.string t] 104 (by simp [go_sem]) GH.o rfl G2.o G3.o.1 G3.o.2 ?_;intro A2 c2 w2 hm hc hj;have b0:=aj (dw GA.o.box hc ht) 7;have b1:=ak (dw GA.o.box hc ht) 7)
  all_goals
   have hu:=h_ hc;have hD:=h_ hm;have hy:=h_ hj;clear hm hc hj;go_wp2;unfold bodyPost;refine⟨rfl,Value.tuple #[],results_none rfl _ _ _,?_⟩;refine⟨_,rfl,GA.o.op (x:=⟨K,a,t⟩) hu.o (by have:=hD.o;simpa [OpD.cells]using this) hy.o,HK.o.1,HK.o.2.1,HK.o.2.2,?_,?_⟩
   ·show v1.on+1=v.on+1;rw [hr.o]
   ·exact(hu.o.below (Nat.le_succ b) GZ.o).setCell (p:=⟨b,7,none⟩) ler _
def m6:List aa→List Int→List Int
 |p::ps,g::gs=>k8 g++(p.Cell::p.Nth::m6 ps gs)
 |_,_=>[]
theorem Ue:∀(xs:List aa) (gs:List Int) (i:Nat) (p:aa) (g:Int),xs[i]?=some p→gs[i]?=some g→m6 (xs.take (i+1)) (gs.take (i+1))=m6 (xs.take i) (gs.take i)++(k8 g++[p.Cell,p.Nth])
 |q::qs,h::hs,0,p,g,h1,h2=>by simp at h1 h2;subst h1;subst h2;simp [m6]
 |q::qs,h::hs,i+1,p,g,h1,h2=>by have:=Ue qs hs i p g (by simpa using h1) (by simpa using h2);simp [m6,this]
 | [],_,_,_,_,h1,_=>by simp at h1
 |_::_,[],_,_,_,_,h2=>by simp at h2
noncomputable def nu(xs:List aa)(gs:List Int):List Int:=if bu xs gs=0 then m6 xs gs else []
theorem p7{xs:List aa}{gs:List Int}(h:bu xs gs=0):jw xs gs:=by
 unfold bu at h;split at h
 ·assumption
 ·cases h
theorem h0g(n:Int):(k8 n).length≤10:=(yt 9 n).1
theorem p0m(A:Option Addr)(n c:Nat)(xs:List aa)(A':Option Addr)(n' c':Nat)(gs:List Int)(w:World)(r:ab w w.heap.size A n c aa.cells 2 xs)(r':ab w w.heap.size A' n' c' (fun z=>[.int .i64 z]) 1 gs):Calls Tryz.prog 57 #[.agg #[.slice A n c,.slice A' n' c']] w fun e w'=>e= .returned (.tuple #[.string (strOfNums (nu xs gs)),.int .i64 (bu xs gs)])∧Below w.heap.size w w':=by
 have h1:Below w.heap.size w (w.alloc (.cells #[.slice A n c,.slice A' n' c'] 43)):=br.alloc ler _;obtain⟨h7,hd⟩:=Ef w (.slice A n c) (.slice A' n' c') 43;have h0:w.heap.size < (w.alloc (.cells #[.slice A n c,.slice A' n' c'] 43)).heap.size:=by simp
 obtain⟨wa,h3⟩:∃wa,wa=w.alloc (.cells #[.slice A n c,.slice A' n' c'] 43):=⟨_,rfl⟩;rw [←h3]at h7 hd h1 h0;have H:=h_ (zu A n c xs A' n' c' gs wa ((r.below h1).more (Nat.le_of_lt h0)) ((r'.below h1).more (Nat.le_of_lt h0)));by_cases hE:bu xs gs=0
 ·have ok:=p7 hE;have hn:=r.len;have hk:=r'.len;rw [ok.1]at hn;rw [ok.2.1]at hk;subst hn;subst hk;have hS:nu xs gs=m6 xs gs:=if_pos hE;rw [hE]at H;have F:=h_ hS;have E:=h_ hE;have HR:=h_ ok.2.2;have X1:=h_ ok.1;have X2:=h_ ok.2.1;clear hS hE ok;go_enter Tryz.func57,Tryz.ntmps57;go_wp2_with(go_at_call 52;rw [←h3];refine H.o.mono ?_;rintro e w1 ⟨rfl,h2⟩;have hy:=(h2.cell (p:=⟨w.heap.size,0,none⟩) h0).trans h7);have hu:Below wa.heap.size wa w1:=h2;clear h3 H h2;go_loopw [5,16] (fun v5 v16 wr=>∃(i:Nat) (T:List Int),i≤48∧T.length≤12*i∧Hid (T=m6 (xs.take i) (gs.take i))∧v16= .int .i64 i∧v5= .string (strOfNums T)∧Below wa.heap.size wa wr) (fun _ v16 _=>48- (intOf v16).toNat)
  case atStart=>exact⟨0,[],zl,by simp,by simp [Hid,m6],rfl,rfl,hu⟩
  case round=>
   obtain⟨i,T,hi,hT,hf,rfl,rfl,hb⟩:=hrel;have hs:=hb.size;have h6:Below w.heap.size w wr:=h1.trans (hb.mono (Nat.le_of_lt h0));have hp:=(hb.cell (p:=⟨w.heap.size,0,none⟩) h0).trans h7;have hg:=(hb.cell (p:=⟨w.heap.size,1,none⟩) h0).trans hd;by_cases hlt:i <48
   ·obtain⟨p,g,e1,e2,g1,g2,g3⟩:=HR.o i hlt;obtain⟨b,o,rfl,hz,hc⟩:=(r.below h6).at_ i _ e1;obtain⟨b',o',rfl,hx,he⟩:=(r'.below h6).one e2;obtain⟨pc,pn⟩:=p;have h9:=hc 0 _ rfl;have hq:=hc 1 _ rfl;simp only [Nat.add_zero]at h9;obtain⟨z0,z1,z2,z3⟩:=Pz g1;simp only at z0 z1 z2 z3;have HP:=h_ (Ue xs gs i _ _ e1 e2);clear hc e1 e2 g1;have C1:Hid (∀W,Calls Tryz.prog 91 #[.int .u64 g] W fun e w'=>e= .returned (.string (strOfNums (k8 g)))∧Below W.heap.size W w'):=fun W=>h0f g W (by omega) (by omega)
    have u0:IntKind.u64.wrap g=g:=by rw [IntKind.wrap_u64];omega
    have pl:=h0g g;generalize k8 g=PG at*
    have D1:Hid (∀W,Calls Tryz.prog 59 #[.int .u64 pc,.int .i64 1] W fun e w'=>e= .returned (.string (strOfNums [pc]))∧Below W.heap.size W w'):=fun W=>by have:=wy pc 1 W (by omega) (by omega) (by omega) (by omega);rwa [tg (by omega) (by omega)]at this
    have D2:Hid (∀W,Calls Tryz.prog 59 #[.int .u64 pn,.int .i64 1] W fun e w'=>e= .returned (.string (strOfNums [pn]))∧Below W.heap.size W w'):=fun W=>by have:=wy pn 1 W (by omega) (by omega) (by omega) (by omega);rwa [tg (by omega) (by omega)]at this
    have u1:IntKind.u64.wrap pc=pc:=by rw [IntKind.wrap_u64];omega
    have u2:IntKind.u64.wrap pn=pn:=by rw [IntKind.wrap_u64];omega
    have hm:=fq (P:=Tryz.prog) PG [pc] (by simp;omega);have h8:=fq (P:=Tryz.prog) (PG++[pc]) [pn] (by simp;omega);have ha:=fq (P:=Tryz.prog) T (PG++[pc]++[pn]) (by simp;omega);generalize hR:PG++[pc]++[pn]=R at h8 ha;have hj:=h_ hR;generalize hQ:PG++[pc]=Q at hm h8;clear hR hQ;go_wp2;obtain⟨q0,q1⟩:=Ef wr (.int .i64 pc) (.int .i64 pn) 89;obtain⟨wq,h5⟩:∃wq,wq=wr.alloc (.cells #[.int .i64 pc,.int .i64 pn] 89):=⟨_,rfl⟩;have h4:Below wr.heap.size wr wq:=by rw [h5];exact br.alloc ler _
    rw [←h5]at q0 q1⊢;have hh:wr.heap.size+1≤wq.heap.size:=by rw [h5];simp
    have hr:wq.cell? ⟨w.heap.size,1,none⟩=some (.slice (some ⟨b',o',none⟩) 48 c')∧wq.cell? ⟨b',o'+i,none⟩=some (.int .i64 g)∧wq.cell? ⟨wr.heap.size,0,none⟩=some (.int .i64 pc)∧wq.cell? ⟨wr.heap.size,1,none⟩=some (.int .i64 pn)∧wr.heap.size+1≤wq.heap.size∧Below wa.heap.size wa wq:=⟨(h4.cell (p:=⟨w.heap.size,1,none⟩) (show w.heap.size <wr.heap.size by omega)).trans hg,(h4.cell (p:=⟨b',o'+i,none⟩) (show b' <wr.heap.size by omega)).trans he,q0,q1,hh,hb.trans (h4.mono hs)⟩;have b0:w.heap.size <wr.heap.size+1:=by omega
    have b1:b' <wr.heap.size+1:=by omega
    have b2:wr.heap.size <wr.heap.size+1:=by omega
    clear q0 q1 h9 hq hp hg he h5 h4 hh;have hw:(i:Int) <48:=by omega
    go_region_held3 (fun W=>W.cell? ⟨w.heap.size,1,none⟩=some (.slice (some ⟨b',o',none⟩) 48 c')∧W.cell? ⟨b',o'+i,none⟩=some (.int .i64 g)∧W.cell? ⟨wr.heap.size,0,none⟩=some (.int .i64 pc)∧W.cell? ⟨wr.heap.size,1,none⟩=some (.int .i64 pn)∧wr.heap.size+1≤W.heap.size∧Below wa.heap.size wa W)
     (first|assumption|exact Tr (by assumption)|exact Ts b0 b1 b2 b2 (by assumption) (by assumption))
     (first
     |(go_at_call_of 91 (Value.int .u64 g);refine(C1.o _).mono ?_;rintro e w' ⟨rfl,hb⟩)
     |(go_at_call_of 59 (Value.int .u64 pc);refine(D1.o _).mono ?_;rintro e w' ⟨rfl,hb⟩)
     |(go_at_call_of 59 (Value.int .u64 pn);refine(D2.o _).mono ?_;rintro e w' ⟨rfl,hb⟩))
    rename_i hHeld;have ht:=Tq hHeld;clear hm h8 ha u0 u1 u2 D1 D2 C1 hHeld hr b0 b1 b2;go_wp2;go_roundw
    case rel=>exact⟨i+1,T++R,by omega,by rw [←hj.o];simp;omega,by simp only [Hid];rw [HP.o,hf.o,←hj.o];simp,by go_num,rfl,ht⟩
    case measure=>simp [intOf];omega
   ·have hF:nu xs gs=T:=by rw [F.o,hf.o,List.take_of_length_le (by have:=X1.o;omega),List.take_of_length_le (by have:=X2.o;omega)]
    go_wp2;go_ret2;exact⟨em (by rw [hF]) E.o.symm,h6⟩
 ·have hS:nu xs gs=[]:=if_neg hE;have hv:(bu xs gs !=0)=true:=bN hE;have F:=h_ hS;generalize bu xs gs=ee at*;clear hE;go_enter Tryz.func57,Tryz.ntmps57;go_wp2_with(go_at_call 52;rw [←h3];refine H.o.mono ?_;rintro e w1 ⟨rfl,h2⟩);go_ret2;exact⟨em (by rw [F.o];rfl) rfl,h1.trans (h2.mono (Nat.le_of_lt h0))⟩
end
section
open Go.RowKit Go.PlainAid
theorem Xw(w:World)(v0 v1 v2:Value)(t:TypeId):(w.alloc (.cells #[v0,v1,v2] t)).cell? ⟨w.heap.size,0,none⟩=some v0∧(w.alloc (.cells #[v0,v1,v2] t)).cell? ⟨w.heap.size,1,none⟩=some v1∧(w.alloc (.cells #[v0,v1,v2] t)).cell? ⟨w.heap.size,2,none⟩=some v2:=by refine⟨?_,?_,?_⟩<;>(unfold World.cell?;rw [A_ w _];rfl)
def ph(t z:Int):Prop:=z <0∨2147483647 <z∨t <0∨2147483647 <t
open Classical in
noncomputable def ka(z:Int)(xs:List aa)(gs:List Int):ByteArray:=strOfNums (cb 4 z++nu xs gs)
open Classical in
noncomputable def m5(t z:Int)(xs:List aa)(gs:List Int):Int:=if ph t z then 1 else if bu xs gs≠0 then bu xs gs else dh 2 t (ka z xs gs).size
open Classical in
noncomputable def qa(t z:Int)(xs:List aa)(gs:List Int):List Int:=if ph t z then []else if bu xs gs≠0 then []else ij 2 t (ka z xs gs)
theorem h0z{t z:Int}{xs:List aa}{gs:List Int}(h:ph t z):m5 t z xs gs=1∧qa t z xs gs=[]:=by unfold m5 qa;rw [if_pos h,if_pos h];exact⟨rfl,rfl⟩
theorem h0y{t z:Int}{xs:List aa}{gs:List Int}(h:¬ph t z)(h2:bu xs gs≠0):m5 t z xs gs=bu xs gs∧qa t z xs gs=[]:=by unfold m5 qa;rw [if_neg h,if_neg h,if_pos h2,if_pos h2];exact⟨rfl,rfl⟩
theorem Qz{t z:Int}{xs:List aa}{gs:List Int}(h:¬ph t z)(h2:bu xs gs=0):m5 t z xs gs=dh 2 t (ka z xs gs).size∧qa t z xs gs=ij 2 t (ka z xs gs):=by unfold m5 qa;rw [if_neg h,if_neg h,if_neg (by simp [h2]),if_neg (by simp [h2])];exact⟨rfl,rfl⟩
theorem Uf:∀(xs:List aa) (gs:List Int),(m6 xs gs).length≤12*xs.length
 | [],_=>by simp [m6]
 |_::_,[]=>by simp [m6]
 |p::ps,g::gs=>by have h:=Uf ps gs;have h2:(k8 g).length≤10:=(yt 9 g).1;simp only [m6,List.length_append,List.length_cons];omega
theorem Ud(xs:List aa)(gs:List Int):(nu xs gs).length≤12*xs.length:=by
 unfold nu;split
 ·exact Uf xs gs
 ·simp
theorem h0w(t z:Int)(A:Option Addr)(n c:Nat)(xs:List aa)(A':Option Addr)(n' c':Nat)(gs:List Int)(w:World)(r:ab w w.heap.size A n c aa.cells 2 xs)(r':ab w w.heap.size A' n' c' (fun z=>[.int .i64 z]) 1 gs)(h:ph t z):Calls Tryz.prog 31 #[.int .i64 t,.agg #[.int .i64 z,.slice A n c,.slice A' n' c']] w fun e w'=>e= .returned (.tuple #[.string (strOfNums (qa t z xs gs)),.int .i64 (m5 t z xs gs)])∧Below w.heap.size w w':=by
 have F:=h_ (h0z (xs:=xs) (gs:=gs) h);clear r r';obtain⟨p0,p1,p2⟩:=Xw w (.int .i64 z) (.slice A n c) (.slice A' n' c') 45;have h0:Below w.heap.size w (w.alloc (.cells #[.int .i64 z,.slice A n c,.slice A' n' c'] 45)):=br.alloc ler _;have h5:w.heap.size < (w.alloc (.cells #[.int .i64 z,.slice A n c,.slice A' n' c'] 45)).heap.size:=by simp
 clear p1 p2 h5;unfold ph at h;rcases(show z <0∨(0≤z∧2147483647 <z)∨(0≤z∧z≤2147483647∧t <0)∨(0≤z∧z≤2147483647∧0≤t∧2147483647 <t) by omega)with h1|⟨h1,h2⟩|⟨h1,h2,h3⟩|⟨h1,h2,h3,h4⟩<;>clear h
 ·go_enter Tryz.func31,Tryz.ntmps31;go_wp2;go_ret2;exact⟨em (by rw [F.o.2];rfl) F.o.1.symm,h0⟩
 ·go_enter Tryz.func31,Tryz.ntmps31;go_wp2;go_ret2;exact⟨em (by rw [F.o.2];rfl) F.o.1.symm,h0⟩
 ·go_enter Tryz.func31,Tryz.ntmps31;go_wp2;go_ret2;exact⟨em (by rw [F.o.2];rfl) F.o.1.symm,h0⟩
 ·go_enter Tryz.func31,Tryz.ntmps31;go_wp2;go_ret2;exact⟨em (by rw [F.o.2];rfl) F.o.1.symm,h0⟩
theorem h0x(t z:Int)(A:Option Addr)(n c:Nat)(xs:List aa)(A':Option Addr)(n' c':Nat)(gs:List Int)(w:World)(r:ab w w.heap.size A n c aa.cells 2 xs)(r':ab w w.heap.size A' n' c' (fun z=>[.int .i64 z]) 1 gs):Calls Tryz.prog 31 #[.int .i64 t,.agg #[.int .i64 z,.slice A n c,.slice A' n' c']] w fun e w'=>e= .returned (.tuple #[.string (strOfNums (qa t z xs gs)),.int .i64 (m5 t z xs gs)])∧Below w.heap.size w w':=by
 by_cases h:ph t z
 ·exact h0w t z A n c xs A' n' c' gs w r r' h
 ·have hb:0≤z∧z≤2147483647∧0≤t∧t≤2147483647:=by unfold ph at h;omega
  obtain⟨z0,z1,t0,t1⟩:=hb;obtain⟨p0,p1,p2⟩:=Xw w (.int .i64 z) (.slice A n c) (.slice A' n' c') 45;have h1:Below w.heap.size w (w.alloc (.cells #[.int .i64 z,.slice A n c,.slice A' n' c'] 45)):=br.alloc ler _;have h0:w.heap.size < (w.alloc (.cells #[.int .i64 z,.slice A n c,.slice A' n' c'] 45)).heap.size:=by simp
  obtain⟨wa,h4⟩:∃wa,wa=w.alloc (.cells #[.int .i64 z,.slice A n c,.slice A' n' c'] 45):=⟨_,rfl⟩;rw [←h4]at p0 p1 p2 h1 h0;have H:=h_ (p0m A n c xs A' n' c' gs wa ((r.below h1).more (Nat.le_of_lt h0)) ((r'.below h1).more (Nat.le_of_lt h0)));by_cases hE:bu xs gs=0
  ·have F:=h_ (Qz h hE);have ha:xs.length=48:=(p7 hE).1;have hl:=Ud xs gs;have h9:(ka z xs gs).size≤600:=by unfold ka;rw [strOfNums_size,List.length_append,l8];omega
   rw [hE]at H;have u1:IntKind.u64.wrap z=z:=by rw [IntKind.wrap_u64];omega
   have CF:Hid (∀W,Calls Tryz.prog 59 #[.int .u64 z,.int .i64 4] W fun e w'=>e= .returned (.string (strOfNums (cb 4 z)))∧Below W.heap.size W w'):=fun W=>by have:=wy z 4 W (by omega) (by omega) (by omega) (by omega);rwa [x8]at this
   have CS:Hid (∀W,Calls Tryz.prog 58 #[.int .i64 2,.int .i64 t,.string (ka z xs gs)] W fun e w'=>e= .returned (.tuple #[.string (strOfNums (ij 2 t (ka z xs gs))),.int .i64 (dh 2 t (ka z xs gs).size)])∧Below W.heap.size W w'):=fun W=>d0r 2 t _ W
   have h6:=fq (P:=Tryz.prog) (cb 4 z) (nu xs gs) (by rw [l8];omega);rw [show strOfNums (cb 4 z++nu xs gs)=ka z xs gs from rfl]at h6;generalize ka z xs gs=BB at*;generalize nu xs gs=II at*;generalize cb 4 z=ZZ at*;clear hE h hl ha h9 r r';go_enter Tryz.func31,Tryz.ntmps31
   go_wp2_with(first
    |(go_at_call 57;rw [←h4];refine H.o.mono ?_;rintro e w1 ⟨rfl,h2⟩;have q0:=(h2.cell (p:=⟨w.heap.size,0,none⟩) h0).trans p0;have h3:=h1.trans (h2.mono (Nat.le_of_lt h0)))
    |(go_at_call 59;refine(CF.o _).mono ?_;rintro e w2 ⟨rfl,h7⟩;have h5:=h3.trans (h7.mono h3.size))
    |(go_at_call 58;refine(CS.o _).mono ?_;rintro e w3 ⟨rfl,h8⟩))
   go_ret2;exact⟨em (by rw [F.o.2]) F.o.1.symm,h5.trans (h8.mono h5.size)⟩
  ·have F:=h_ (h0y h hE);have hc:(bu xs gs !=0)=true:=bN hE;generalize bu xs gs=ee at*;generalize nu xs gs=II at*;clear hE h r r';go_enter Tryz.func31,Tryz.ntmps31;go_wp2_with(go_at_call 57;rw [←h4];refine H.o.mono ?_;rintro e w1 ⟨rfl,h2⟩;have h3:=h1.trans (h2.mono (Nat.le_of_lt h0)));go_ret2;exact⟨em (by rw [F.o.2];rfl) F.o.1.symm,h3⟩
end
section
open Go.RowKit
noncomputable def syT(xs:List aa)(gs:List Int)(ser t:Int):ByteArray:=strOfNums (qa (t+1) ser xs gs)
noncomputable def syX(cs:List ByteArray)(ws:List ae)(xs:List aa)(gs:List Int)(ser t:Int):List ByteArray:=
 my ia (wrX (my ia cs ws) [] ((t+1)%2) (syT xs gs ser t)) (wrY (my ia cs ws) [] ((t+1)%2) (syT xs gs ser t))
noncomputable def syE(cs:List ByteArray)(ws:List ae)(xs:List aa)(gs:List Int)(ser t:Int):Int:=
 if 2147483647≤t then 9 else if m5 (t+1) ser xs gs≠0 then m5 (t+1) ser xs gs else ucE (syX cs ws xs gs ser t) [] xs gs
def s7(b:Nat)(cs:List ByteArray)(ws:List ae)(xs:List aa)(gs:List Int)(ser t:Int)(w:World)(e:Ending)(w':World):Prop:=
 e= .returned (.int .i64 (syE cs ws xs gs ser t))∧Below b w w'∧(syE cs ws xs gs ser t=0→∃v fr os,FsT b (syX cs ws xs gs ser t) [] xs gs fr os v w')
theorem b0g(b:Nat)(cs:List ByteArray)(ws:List ae)(xs:List aa)(gs fr:List Int)(os:List OpD)(v:FsV)(w:World)(h:FsT b cs ws xs gs fr os v w)(hon:v.on≤1000)(ht0: -1≤v.tur)(ht1:v.tur≤2147483647)(hs0:0≤v.ser)(hs1:v.ser≤2147483647):Calls Tryz.prog 14 #[.pointer (some ⟨b,0,none⟩)] w (s7 b cs ws xs gs v.ser v.tur w):=by
 have hA:=h.lt;have c5:=rc5 h.box;by_cases hbig:2147483647≤v.tur
 ·have hE:syE cs ws xs gs v.ser v.tur=9:=if_pos hbig;have h0:Hid (s7 b cs ws xs gs v.ser v.tur w (.returned (.int .i64 9)) w):=h_ ⟨by rw [hE],br,fun h=>by rw [hE]at h;cases h⟩;clear h;generalize s7 b cs ws xs gs v.ser v.tur w=PP at*;go_enter Tryz.func14,Tryz.ntmps14;go_wp2
  first|exact h0.o|(go_ret;exact h0.o)
 ·have c2:=rc2 h.box;have c3:=rc3 h.box;have c4:=rc4 h.box
  have ha:Hid (Calls Tryz.prog 31 #[.int .i64 (v.tur+1),.agg #[.int .i64 v.ser,.slice v.aA v.an v.ac,.slice v.gA v.gn v.gc]] w.drew fun e w'=>∃_:Unit,e= .returned (.tuple #[.string (syT xs gs v.ser v.tur),.int .i64 (m5 (v.tur+1) v.ser xs gs)])∧Below w.drew.heap.size w.drew w'):=
   h_ ((h0x (v.tur+1) v.ser v.aA v.an v.ac xs v.gA v.gn v.gc gs w.drew h.drew.ra h.drew.rg).mono fun _ _ h=>⟨(),h⟩)
  have HA:=h_ h;obtain⟨E,hE⟩:∃E,E=m5 (v.tur+1) v.ser xs gs:=⟨_,rfl⟩;obtain⟨T,hT⟩:∃T,T=syT xs gs v.ser v.tur:=⟨_,rfl⟩
  have h0:Hid (∀e w',((E≠0∧e= .returned (.int .i64 E)∧Below b w w')∨(E=0∧e= .returned (.int .i64 (ucE (syX cs ws xs gs v.ser v.tur) [] xs gs))∧Below b w w'∧∃v' fr' os',FsT b (syX cs ws xs gs v.ser v.tur) [] xs gs fr' os' v' w'))→s7 b cs ws xs gs v.ser v.tur w e w'):=h_ fun e w' h=>by
   have hs:syE cs ws xs gs v.ser v.tur=if E≠0 then E else ucE (syX cs ws xs gs v.ser v.tur) [] xs gs:=by unfold syE;rw [if_neg hbig,←hE]
   rcases h with⟨h1,rfl,h2⟩|⟨h1,rfl,h2,h3⟩
   ·rw [if_pos h1]at hs;exact⟨by rw [hs],h2,fun h=>absurd (hs.symm.trans h) h1⟩
   ·rw [if_neg (fun h=>h h1)]at hs;exact⟨by rw [hs],h2,fun _=>h3⟩
  rw [←hE,←hT]at ha;have hq:Hid (syX cs ws xs gs v.ser v.tur=doX (doX (doX cs ws ⟨2,0,⟨#[]⟩⟩) [] ⟨1,(v.tur+1)%2,T⟩) (doY (doX cs ws ⟨2,0,⟨#[]⟩⟩) [] ⟨1,(v.tur+1)%2,T⟩) ⟨2,0,⟨#[]⟩⟩):=h_ (by unfold syX doX doY;simp [hT]);have hy:IntKind.i64.wrap (v.tur+1)=v.tur+1:=by rw [IntKind.wrap_i64];omega
  have hz:wrap64 (v.tur+1)=v.tur+1:=by unfold wrap64;omega
  have hm:Int.tmod (v.tur+1) 2=(v.tur+1)%2:=Int.tmod_eq_emod_of_nonneg (by omega);have hB:wrap64 ((v.tur+1)%2)=(v.tur+1)%2:=by unfold wrap64;omega
  clear h hE hT ht0 ht1 hs0 hs1;generalize syX cs ws xs gs v.ser v.tur=X3 at*;generalize s7 b cs ws xs gs v.ser v.tur w=PP at*;go_enter Tryz.func14,Tryz.ntmps14;go_wp2;go_region_law(refine eh rfl 31 rfl #[.int .i64 (v.tur+1),.agg #[.int .i64 v.ser,.slice v.aA v.an v.ac,.slice v.gA v.gn v.gc]] (fun _:Unit=>Value.tuple #[.string T,.int .i64 E]) (by simp [go_sem]) ha.o ?_;rintro⟨⟩ w2 h7)
  all_goals
   have H2:Hid (FsT b cs ws xs gs fr os v w2):=h_ (HA.o.drew.below h7);have B2:Hid (Below b w w2):=h_ (br.drew.trans (h7.mono (by show b≤w.heap.size;omega)));clear h7 c2 c3 c4 c5;by_cases hE:E=0
   ·subst hE;have hx:=h_ hon;have hr:Hid (v.on≤1000000):=h_ (by omega);have hw:Hid (∀u:FsV,u.on=v.on+1→u.on≤1000000):=h_ (fun u h=>by omega);have hp:Hid (∀u u':FsV,u.on=v.on+1→u'.on=u.on+1→u'.on≤1000000):=h_ (fun u u' h h'=>by omega);have hv:Hid (doY cs ws ⟨2,0,⟨#[]⟩⟩=[]):=h_ (by unfold doY;exact if_neg (by decide));have hj:Hid (∀X Y,doY X Y ⟨2,0,⟨#[]⟩⟩=[]):=h_ (fun X Y=>by unfold doY;exact if_neg (by decide));clear hon
    go_wp2_with(first
     |(go_at_call 33;refine(b0t b _ _ xs gs fr _ _ _ H5.o).mono ?_;rintro e w6 ⟨rfl,v6,hC,h6,hf⟩;have H6:=h_ h6;have B6:Hid (Below b w w6):=h_ (B5.o.trans hf);clear h6 hf)
     |(go_at_call 32;refine(Kb b _ _ xs gs fr _ _ ⟨2,0,⟨#[]⟩⟩ _ (.inr rfl) H4.o hh.o).mono ?_;rintro e w5 ⟨v5,rfl,h5,_,_,_,_,hg⟩;have B5:Hid (Below b w w5):=h_ (B4.o.trans hg);rw [hj.o,←hq.o]at h5;have H5:=h_ h5;clear h5 hg)
     |(go_at_call 32;refine(Kb b _ _ xs gs fr _ _ ⟨1,(v.tur+1)%2,T⟩ _ (.inl rfl) H3.o ht.o).mono ?_;rintro e w4 ⟨v4,rfl,h4,_,_,_,hc,h9⟩;have B4:Hid (Below b w w4):=h_ (B3.o.trans h9);have hh:=h_ (hp.o v3 v4 hn.o hc);have H4:=h_ h4;clear h4 hc h9)
     |(go_at_call 32;refine(Kb b cs ws xs gs fr os v ⟨2,0,⟨#[]⟩⟩ w2 (.inr rfl) H2.o hr.o).mono ?_;rintro e w3 ⟨v3,rfl,h3,hk,hd,hu,h8,he⟩;have t5:=aj h3.box 5;simp only [FsV.cells,sA,sB,sC,hd]at t5;have t6:=ak h3.box 5;rw [hv.o]at h3;have H3:=h_ (h3.turn (v.tur+1));have hn:=h_ h8;have ht:=h_ (hw.o v3 h8);have B3:Hid (Below b w (w3.setCell ⟨b,5,none⟩ (.int .i64 (v.tur+1)))):=h_ ((B2.o.trans he).setCell (p:=⟨b,5,none⟩) ler _);clear h3 hk hd hu h8 he))
    have HF:=h0.o _ _ (.inr ⟨trivial,rfl,B6.o,_,_,_,H6.o⟩)
    first|exact HF|(go_ret;exact HF)
   ·have g1:(E !=0)=true:=bN hE;go_wp2;have HF:=h0.o _ _ (.inl ⟨hE,rfl,B2.o⟩)
    first|exact HF|(go_ret;exact HF)
def gu(s:ByteArray):Prop:=ch s=0∧dg s=2∧4≤(aq s).size∧kr ((aq s).extract 4 (aq s).size)=0∧fh ((aq s).extract 0 4)≤2147483647
open Classical in
noncomputable def prE(s:ByteArray):Int:=if ch s≠0 then ch s else if gu s then 0 else 4
open Classical in
noncomputable def prN(s:ByteArray):Int:=if gu s then d9 s else 0
open Classical in
noncomputable def prS(s:ByteArray):Int:=if gu s then fh ((aq s).extract 0 4)else 0
open Classical in
noncomputable def prP(s:ByteArray):List aa:=if gu s then qg ((aq s).extract 4 (aq s).size)else []
open Classical in
noncomputable def prG(s:ByteArray):List Int:=if gu s then nt ((aq s).extract 4 (aq s).size)else []
theorem Gz{s:ByteArray}(h:¬gu s):prN s=0∧prS s=0∧prP s=[]∧prG s=[]:=by unfold prN prS prP prG;rw [if_neg h,if_neg h,if_neg h,if_neg h];exact⟨rfl,rfl,rfl,rfl⟩
theorem yu{s:ByteArray}(h:gu s):prE s=0∧prN s=d9 s∧prS s=fh ((aq s).extract 0 4)∧prP s=qg ((aq s).extract 4 (aq s).size)∧prG s=nt ((aq s).extract 4 (aq s).size):=by unfold prE prN prS prP prG;have e:¬(ch s≠0):=fun g=>g h.1;rw [if_neg e,if_pos h,if_pos h,if_pos h,if_pos h,if_pos h];exact⟨rfl,rfl,rfl,rfl,rfl⟩
theorem Gx{s:ByteArray}(h:ch s≠0):¬gu s∧prE s=ch s:=⟨fun k=>h k.1,by unfold prE;exact if_pos h⟩
theorem ss{s:ByteArray}(h:ch s=0)(h2:¬gu s):prE s=4:=by have e:¬(ch s≠0):=fun g=>g h;unfold prE;rw [if_neg e,if_neg h2]
end
end Go.Proofs.YtcldpfhpkbeaiadGreat
