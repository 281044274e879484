/- A part of the proof of FsMounts. No condition of ours. -/
import Derived.Test.YtcldpfhpkbeaiadGreatFsMounts40
import Derived.Test.YtcldpfhpkbeaiadGreatFsMounts41
set_option maxRecDepth 20000
set_option maxHeartbeats 2000000
namespace Go.Proofs.YtcldpfhpkbeaiadGreat
section
open Go.RowKit Go.PlainAid
abbrev cf:Array Value:= #[.int .i64 0,.slice none 0 0,.slice none 0 0]
theorem er:(Tryz.prog.info? 45).map (·.size)=some 3:=by kernel_rfl
theorem jj{P:Program}{fn:Func}{p u z:Tmp}{ty:TypeId}(h:fn.results= #[.tmp z,.cell p ty,.tmp u])(tmps:Array Value)(w:World)(g:Nat)(t:TypeId)(cs:Array Value)(fr:Nat×Nat)(d:TypeDesc)(hp:tmps.getD p undef= .pointer (some ⟨g,0,none⟩))(hg:w.heap[g]?=some (.cells cs t fr))(hu:P.underlying ty=some d)(hd:(match d with| .struct _| .array _ _=>true|_=>false)=true)(hi:(P.info? ty).map (·.size)=some cs.size):(results fn tmps).run P w= .ok (.tuple #[tmps.getD z undef,.agg cs,tmps.getD u undef]) w:=by
 have h0:tmps[p]?.getD undef= .pointer (some ⟨g,0,none⟩):=by simpa using hp
 simp [results,h,h0,asAddr,run_loadVar_row w g t ty cs fr d hg hu hd hi]
theorem Qs{x:Int}{k:Nat}(h:(cf:Array Value)[k]?=some (.int .i64 x)):k=0:=by
 match k,h with
 |0,_=>rfl
 |1,h=>simp at h
 |2,h=>simp at h
 |k+3,h=>simp at h
theorem Qq{w:World}{B n c M:Nat}{A:Option Addr}{xs:List aa}{t:TypeId}(r:ab w B A n c aa.cells 2 xs)(hM:w.heap[M]?=some (.cells cf t (0,0))):∀b o,A=some ⟨b,o,none⟩→0 <n→b≠M:=fun b o e h0 e2=>by subst e2;have hl:=r.len;obtain⟨b',o',e',_,hc⟩:=r.at_ 0 (xs[0]'(by omega)) (gE (by omega));rw [e]at e';injection e' with e';injection e' with e1 e2 _;subst e1;subst e2;have h1:=hc 1 _ rfl;rw [aj hM]at h1;have:=Qs h1;omega
theorem Qr{w:World}{B n c M:Nat}{A:Option Addr}{xs:List Int}{t:TypeId}(r:ab w B A n c (fun z=>[.int .i64 z]) 1 xs)(hn:xs.length≠1)(hM:w.heap[M]?=some (.cells cf t (0,0))):∀b o,A=some ⟨b,o,none⟩→0 <n→b≠M:=fun b o e h0 e2=>by subst e2;have hl:=r.len;obtain⟨b',o',e',_,hc⟩:=r.at_ 1 (xs[1]'(by omega)) (gE (by omega));rw [e]at e';injection e' with e';injection e' with e1 e2 _;subst e1;subst e2;have h1:=hc 0 _ rfl;rw [aj hM]at h1;have:=Qs h1;omega
theorem Je(s:ByteArray):(nt s).length≠1:=by
 unfold nt;split
 ·rw [J8];decide
 ·simp
def sa(s:ByteArray)(w:World)(e:Ending)(w':World):Prop:=∃A n c A' n' c',e= .returned (.tuple #[.int .i64 (prN s),.agg #[.int .i64 (prS s),.slice A n c,.slice A' n' c'],.int .i64 (prE s)])∧ab w' w'.heap.size A n c aa.cells 2 (prP s)∧ab w' w'.heap.size A' n' c' (fun z=>[.int .i64 z]) 1 (prG s)∧Below w.heap.size w w'
theorem ot{s:ByteArray}{w w':World}{k:Int}(h:¬gu s)(he:prE s=k)(hb:Below w.heap.size w w'):sa s w (.returned (.tuple #[.int .i64 0,.agg cf,.int .i64 k])) w':=by obtain⟨a,b,c,d⟩:=Gz h;exact⟨none,0,0,none,0,0,by rw [a,b,he],by rw [c];exact zd _ _,by rw [d];exact vj _ _,hb⟩
theorem h0n(s:ByteArray)(w:World):Calls Tryz.prog 23 #[.string s] w (sa s w):=by
 obtain⟨wa,hf⟩:∃wa,wa=w.alloc (.cells cf 45):=⟨_,rfl⟩;have hr:wa.heap.size=w.heap.size+1:=by rw [hf];simp
 have hu:Below w.heap.size w wa:=by rw [hf];exact br.alloc ler _
 have hs:wa.heap[w.heap.size]?=some (.cells cf 45 (0,0)):=by rw [hf];exact A_ w _
 have H1:Hid (∀W,Calls Tryz.prog 48 #[.string s] W fun e w'=>e= .returned (.tuple #[.int .i64 (dg s),.int .i64 (d9 s),.string (aq s),.int .i64 (ch s)])∧Below W.heap.size W w'):=fun W=>Rr s W
 have H2:Hid (∀t W,Calls Tryz.prog 49 #[.string t] W fun e w'=>e= .returned (.tuple #[.int .u64 (fh t),.int .i64 (kg t)])∧W=w'):=fun t W=>G1 t W
 have H3:Hid (∀a b W,Calls Tryz.prog 50 #[.string ((aq s).extract a b)] W (pr ((aq s).extract a b) W)):=fun a b W=>p0h _ W
 have hg:Hid ((cf:Array Value).all (·.oneCell')=true):=by simp [Hid,Value.oneCell']
 have hE:Hid (∀(x:Int) (A A':Option Addr) (n c n' c':Nat),((#[.int .i64 x,.slice A n c,.slice A' n' c']:Array Value).all (·.oneCell'))=true):=fun _ _ _ _ _ _ _=>by simp [Value.oneCell']
 have h9:=h_ hs;have hd:=h_ hf;have h6:=h_ hu;have hD:=h_ hr;clear hf hr hu hs;by_cases he:ch s=0
 ·have HO:=h_ he;rw [he]at H1;clear he;by_cases hk:dg s=2
  ·have HK:=h_ hk;rw [hk]at H1;clear hk;by_cases h4:(aq s).size <4
   ·have hn:¬gu s:=fun k=>by have:=k.2.2.1;omega
    have F:=h_ (ss HO.o hn);have HN:=h_ hn;have i4:((aq s).size:Int) <4:=by omega
    clear hn h4;generalize aq s=T at*;generalize d9 s=N at*;go_enter Tryz.func23,Tryz.ntmps23
    go_wp2_with(first
     |(go_at_call 48;rw [←hd.o];refine(H1.o _).mono ?_;rintro e w1 ⟨rfl,h0⟩;have h3:=h_ (ah h9.o (ag h9.o) h0);have h5:=h_ h0;clear h0)
     |(refine wpList_store_rowTo rfl _ _ _ rfl rfl w.heap.size cf rfl rfl 45 cf h3.o er rfl hg.o ?_))
    refine bodyPost_ret (jj rfl _ _ w.heap.size _ cf (0,0) _ rfl (bh h3.o) Tryz.underlying45 rfl er) rfl ?_;exact ot HN.o F.o (below_setRow (h6.o.trans (h5.o.mono h6.o.size)) ler _)
   ·have i4:¬((aq s).size:Int) <4:=by omega
    have i5:(4:Int)≤((aq s).size:Int):=by omega
    have i6:4≤(aq s).size:=by omega
    have hj:Hid (∀W,Calls Tryz.prog 50 #[.string ((aq s).extract 4 (aq s).size)] W (pr ((aq s).extract 4 (aq s).size) W)):=fun W=>H3.o 4 (aq s).size W
    have hq:Hid (∀W,Calls Tryz.prog 49 #[.string ((aq s).extract 0 4)] W fun e w'=>e= .returned (.tuple #[.int .u64 (fh ((aq s).extract 0 4)),.int .i64 (kg ((aq s).extract 0 4))])∧W=w'):=fun W=>H2.o _ W
    unfold pr at hj
    have hz:(kr ((aq s).extract 4 (aq s).size)≠0∧¬gu s)∨(kr ((aq s).extract 4 (aq s).size)=0∧2147483647 <fh ((aq s).extract 0 4)∧¬gu s)∨(kr ((aq s).extract 4 (aq s).size)=0∧fh ((aq s).extract 0 4)≤2147483647∧gu s):=by
     by_cases h1:kr ((aq s).extract 4 (aq s).size)=0
     ·by_cases h2:2147483647 <fh ((aq s).extract 0 4)
      ·exact .inr (.inl ⟨h1,h2,fun k=>by have:=k.2.2.2.2;omega⟩)
      ·exact .inr (.inr ⟨h1,by omega,HO.o,HK.o,by omega,h1,by omega⟩)
     ·exact .inl ⟨h1,fun k=>h1 k.2.2.2.1⟩
    have hC:0≤fh ((aq s).extract 0 4):=by rw [(pv (by simp [ByteArray.size_extract];omega)).1];exact(rz _ (fun j=>bt_nonneg _ _) (fun j=>bt_le _ _) _).1
    have hy:=h_ (Je ((aq s).extract 4 (aq s).size));have hw:=h_ (fun h=>yu (s:=s) h);have ht:=h_ (fun h=>ss (s:=s) HO.o h);clear H2 H3 h4;generalize kr ((aq s).extract 4 (aq s).size)=ie at*;generalize qg ((aq s).extract 4 (aq s).size)=ip at*;generalize nt ((aq s).extract 4 (aq s).size)=ig at*;generalize fh ((aq s).extract 0 4)=uv at*;generalize kg ((aq s).extract 0 4)=ue at*;generalize aq s=T at*;generalize d9 s=N at*;rcases hz with⟨h1,hn⟩|⟨h1,h2,hn⟩|⟨h1,h2,hn⟩
    ·have F:=h_ (ht.o hn);have HN:=h_ hn;have g1:(ie !=0)=true:=bN h1;clear h1 hn;go_enter Tryz.func23,Tryz.ntmps23
     go_wp2_with(first
      |(go_at_call 48;rw [←hd.o];refine(H1.o _).mono ?_;rintro e w1 ⟨rfl,h0⟩;have h3:=h_ (ah h9.o (ag h9.o) h0);have h5:=h_ h0;clear h0)
      |(go_at_call 49;refine(hq.o _).mono ?_;rintro e w2 ⟨rfl,rfl⟩)
      |(go_at_call 50;refine(hj.o _).mono ?_;rintro e w3 ⟨D,q,d,D',q',d',rfl,r3,ha,h7⟩;have hc:=h_ h7;have h8:=h_ (cq (ah h3.o (ag h3.o) h7) (.cells #[.slice D q d,.slice D' q' d'] 43));have hp:=h_ (ah h3.o (ag h3.o) h7);have R3:=h_ r3;have hh:=h_ ha;have m0:=A_ w3 (.cells #[.slice D q d,.slice D' q' d'] 43);have m1:=rc0 m0;have m2:=rc1 m0;clear h7 r3 ha m0)
      |(refine wpList_store_rowTo rfl _ _ _ rfl rfl w.heap.size cf rfl rfl 45 cf h8.o er rfl hg.o ?_))
     refine bodyPost_ret (jj rfl _ _ w.heap.size _ cf (0,0) _ rfl (bh h8.o) Tryz.underlying45 rfl er) rfl ?_;exact ot HN.o F.o (below_setRow ((h6.o.trans ((h5.o.trans (hc.o.mono h5.o.size)).mono h6.o.size)).alloc (h6.o.trans ((h5.o.trans (hc.o.mono h5.o.size)).mono h6.o.size)).size _) ler _)
    ·have F:=h_ (ht.o hn);have HN:=h_ hn;subst h1;clear hn;go_enter Tryz.func23,Tryz.ntmps23
     go_wp2_with(first
      |(go_at_call 48;rw [←hd.o];refine(H1.o _).mono ?_;rintro e w1 ⟨rfl,h0⟩;have h3:=h_ (ah h9.o (ag h9.o) h0);have h5:=h_ h0;clear h0)
      |(go_at_call 49;refine(hq.o _).mono ?_;rintro e w2 ⟨rfl,rfl⟩)
      |(go_at_call 50;refine(hj.o _).mono ?_;rintro e w3 ⟨D,q,d,D',q',d',rfl,r3,ha,h7⟩;have hc:=h_ h7;have h8:=h_ (cq (ah h3.o (ag h3.o) h7) (.cells #[.slice D q d,.slice D' q' d'] 43));have hp:=h_ (ah h3.o (ag h3.o) h7);have R3:=h_ r3;have hh:=h_ ha;have m0:=A_ w3 (.cells #[.slice D q d,.slice D' q' d'] 43);have m1:=rc0 m0;have m2:=rc1 m0;clear h7 r3 ha m0)
      |(refine wpList_store_rowTo rfl _ _ _ rfl rfl w.heap.size cf rfl rfl 45 cf h8.o er rfl hg.o ?_))
     refine bodyPost_ret (jj rfl _ _ w.heap.size _ cf (0,0) _ rfl (bh h8.o) Tryz.underlying45 rfl er) rfl ?_;exact ot HN.o F.o (below_setRow ((h6.o.trans ((h5.o.trans (hc.o.mono h5.o.size)).mono h6.o.size)).alloc (h6.o.trans ((h5.o.trans (hc.o.mono h5.o.size)).mono h6.o.size)).size _) ler _)
    ·have F:=h_ (hw.o hn);subst h1;have g2:¬(2147483647:Int) <uv:=by omega
     have g3:IntKind.i64.wrap uv=uv:=IntWalk.i64_in _ (by omega);clear hn;go_enter Tryz.func23,Tryz.ntmps23
     go_wp2_with(first
      |(go_at_call 48;rw [←hd.o];refine(H1.o _).mono ?_;rintro e w1 ⟨rfl,h0⟩;have h3:=h_ (ah h9.o (ag h9.o) h0);have h5:=h_ h0;clear h0)
      |(go_at_call 49;refine(hq.o _).mono ?_;rintro e w2 ⟨rfl,rfl⟩)
      |(go_at_call 50;refine(hj.o _).mono ?_;rintro e w3 ⟨D,q,d,D',q',d',rfl,r3,ha,h7⟩;have hc:=h_ h7;have h8:=h_ (cq (ah h3.o (ag h3.o) h7) (.cells #[.slice D q d,.slice D' q' d'] 43));have hp:=h_ (ah h3.o (ag h3.o) h7);have R3:=h_ r3;have hh:=h_ ha;have m0:=A_ w3 (.cells #[.slice D q d,.slice D' q' d'] 43);have m1:=rc0 m0;have m2:=rc1 m0;clear h7 r3 ha m0))
     have N1:=h_ (Qq R3.o hp.o);have N2:=h_ (Qr hh.o hy.o hp.o);have hA:=h_ ((h6.o.trans ((h5.o.trans (hc.o.mono h5.o.size)).mono h6.o.size)).alloc (h6.o.trans ((h5.o.trans (hc.o.mono h5.o.size)).mono h6.o.size)).size (.cells #[.slice D q d,.slice D' q' d'] 43));have R4:=h_ (iv R3.o (.cells #[.slice D q d,.slice D' q' d'] 43));have hx:=h_ (iv hh.o (.cells #[.slice D q d,.slice D' q' d'] 43));generalize w3.alloc (.cells #[.slice D q d,.slice D' q' d'] 43)=w4 at*;have k0:=rc0 h8.o;have k1:=rc1 h8.o;have k2:=rc2 h8.o;have k3:=ak h8.o 0;have k4:=ak h8.o 1;have k5:=ak h8.o 2;go_region_law(fail)
     all_goals
      have hm:=b9 (j:=2) (v:=.slice D' q' d') (b9 (j:=1) (v:=.slice D q d) (b9 (w:=w4) (j:=0) (v:=.int .i64 uv) h8.o));have HM:Hid ((((w4.setCell ⟨w.heap.size,0,none⟩ (.int .i64 uv)).setCell ⟨w.heap.size,1,none⟩ (.slice D q d)).setCell ⟨w.heap.size,2,none⟩ (.slice D' q' d')).heap[w.heap.size]?=some (.cells #[.int .i64 uv,.slice D q d,.slice D' q' d'] 45 (0,0))):=hm;have R5:=h_ ((dj (z:=2) (dj (z:=1) (dj (z:=0) R4.o N1.o (.int .i64 uv)) N1.o (.slice D q d)) N1.o (.slice D' q' d')).more (show _≤(((w4.setCell ⟨w.heap.size,0,none⟩ (.int .i64 uv)).setCell ⟨w.heap.size,1,none⟩ (.slice D q d)).setCell ⟨w.heap.size,2,none⟩ (.slice D' q' d')).heap.size by simp [World.setCell]));have hv:=h_ ((dj (z:=2) (dj (z:=1) (dj (z:=0) hx.o N2.o (.int .i64 uv)) N2.o (.slice D q d)) N2.o (.slice D' q' d')).more (show _≤(((w4.setCell ⟨w.heap.size,0,none⟩ (.int .i64 uv)).setCell ⟨w.heap.size,1,none⟩ (.slice D q d)).setCell ⟨w.heap.size,2,none⟩ (.slice D' q' d')).heap.size by simp [World.setCell]));have hB:Hid (Below w.heap.size w (((w4.setCell ⟨w.heap.size,0,none⟩ (.int .i64 uv)).setCell ⟨w.heap.size,1,none⟩ (.slice D q d)).setCell ⟨w.heap.size,2,none⟩ (.slice D' q' d'))):=((hA.o.setCell ler _).setCell ler _).setCell ler _;clear hm k0 k1 k2 k3 k4 k5;generalize(((w4.setCell ⟨w.heap.size,0,none⟩ (.int .i64 uv)).setCell ⟨w.heap.size,1,none⟩ (.slice D q d)).setCell ⟨w.heap.size,2,none⟩ (.slice D' q' d'))=w5 at*;go_wp2;refine bodyPost_ret (jj rfl _ _ w.heap.size _ #[.int .i64 uv,.slice D q d,.slice D' q' d'] (0,0) _ rfl HM.o Tryz.underlying45 rfl er) rfl ?_;exact⟨D,q,d,D',q',d',by rw [F.o.1,F.o.2.1,F.o.2.2.1];rfl,by rw [F.o.2.2.2.1];exact R5.o.drew,by rw [F.o.2.2.2.2];exact hv.o.drew,hB.o.drew⟩
  ·have hn:¬gu s:=fun k=>hk k.2.1
   have F:=h_ (ss HO.o hn);have HN:=h_ hn;have i4:(dg s !=2)=true:=bN hk;clear hn hk;generalize dg s=K at*;generalize aq s=T at*;generalize d9 s=N at*;go_enter Tryz.func23,Tryz.ntmps23
   go_wp2_with(first
    |(go_at_call 48;rw [←hd.o];refine(H1.o _).mono ?_;rintro e w1 ⟨rfl,h0⟩;have h3:=h_ (ah h9.o (ag h9.o) h0);have h5:=h_ h0;clear h0)
    |(refine wpList_store_rowTo rfl _ _ _ rfl rfl w.heap.size cf rfl rfl 45 cf h3.o er rfl hg.o ?_))
   refine bodyPost_ret (jj rfl _ _ w.heap.size _ cf (0,0) _ rfl (bh h3.o) Tryz.underlying45 rfl er) rfl ?_;exact ot HN.o F.o (below_setRow (h6.o.trans (h5.o.mono h6.o.size)) ler _)
 ·obtain⟨hn,e1⟩:=Gx he;have F:=h_ e1;have HN:=h_ hn;have i4:(ch s !=0)=true:=bN he;clear hn e1 he;generalize ch s=E at*;generalize dg s=K at*;generalize aq s=T at*;generalize d9 s=N at*;go_enter Tryz.func23,Tryz.ntmps23
  go_wp2_with(first
   |(go_at_call 48;rw [←hd.o];refine(H1.o _).mono ?_;rintro e w1 ⟨rfl,h0⟩;have h3:=h_ (ah h9.o (ag h9.o) h0);have h5:=h_ h0;clear h0)
   |(refine wpList_store_rowTo rfl _ _ _ rfl rfl w.heap.size cf rfl rfl 45 cf h3.o er rfl hg.o ?_))
  refine bodyPost_ret (jj rfl _ _ w.heap.size _ cf (0,0) _ rfl (bh h3.o) Tryz.underlying45 rfl er) rfl ?_;exact ot HN.o F.o (below_setRow (h6.o.trans (h5.o.mono h6.o.size)) ler _)
theorem Qv(s:ByteArray)(hs:s.size≤140737488351232)(w:World):Calls Tryz.prog 63 #[.string s] w (sa s w):=by
 obtain⟨wa,hf⟩:∃wa,wa=w.alloc (.cells cf 45):=⟨_,rfl⟩;have hr:wa.heap.size=w.heap.size+1:=by rw [hf];simp
 have hw:Below w.heap.size w wa:=by rw [hf];exact br.alloc ler _
 have hu:wa.heap[w.heap.size]?=some (.cells cf 45 (0,0)):=by rw [hf];exact A_ w _
 have H1:Hid (∀W,Calls Tryz.prog 95 #[.string s] W fun e w'=>e= .returned (.tuple #[.int .i64 (dg s),.int .i64 (d9 s),.string (aq s),.int .i64 (ch s)])∧Below W.heap.size W w'):=fun W=>Fz s W
 have H2:Hid (∀t W,Calls Tryz.prog 97 #[.string t] W fun e w'=>e= .returned (.tuple #[.int .u64 (fh t),.int .i64 (kg t)])∧W=w'):=fun t W=>G0 t W
 have hz:(aq s).size≤s.size:=by
  unfold aq;split
  ·simp [ByteArray.size_extract];omega
  ·exact zl
 have ht:∀a b,((aq s).extract a b).size≤140737488351232:=fun a b=>by
  have:((aq s).extract a b).size≤(aq s).size:=by simp [ByteArray.size_extract];omega
  omega
 have H3:Hid (∀a b W,Calls Tryz.prog 96 #[.string ((aq s).extract a b)] W (pr ((aq s).extract a b) W)):=fun a b W=>p0k _ W (ht a b)
 clear hz ht;have hg:Hid ((cf:Array Value).all (·.oneCell')=true):=by simp [Hid,Value.oneCell']
 have hH:Hid (∀(x:Int) (A A':Option Addr) (n c n' c':Nat),((#[.int .i64 x,.slice A n c,.slice A' n' c']:Array Value).all (·.oneCell'))=true):=fun _ _ _ _ _ _ _=>by simp [Value.oneCell']
 have h9:=h_ hu;have hd:=h_ hf;have h6:=h_ hw;have hG:=h_ hr;clear hf hr hw hu;by_cases he:ch s=0
 ·have HO:=h_ he;rw [he]at H1;clear he;by_cases hk:dg s=2
  ·have HK:=h_ hk;rw [hk]at H1;clear hk;by_cases h4:(aq s).size <4
   ·have hn:¬gu s:=fun k=>by have:=k.2.2.1;omega
    have F:=h_ (ss HO.o hn);have HN:=h_ hn;have i4:((aq s).size:Int) <4:=by omega
    clear hn h4;generalize aq s=T at*;generalize d9 s=N at*;go_enter Tryz.func63,Tryz.ntmps63
    go_wp2_with(first
     |(go_at_call 95;rw [←hd.o];refine(H1.o _).mono ?_;rintro e w1 ⟨rfl,h0⟩;have h3:=h_ (ah h9.o (ag h9.o) h0);have h5:=h_ h0;clear h0)
     |(refine wpList_store_rowTo rfl _ _ _ rfl rfl w.heap.size cf rfl rfl 45 cf h3.o er rfl hg.o ?_))
    refine bodyPost_ret (jj rfl _ _ w.heap.size _ cf (0,0) _ rfl (bh h3.o) Tryz.underlying45 rfl er) rfl ?_;exact ot HN.o F.o (below_setRow (h6.o.trans (h5.o.mono h6.o.size)) ler _)
   ·have i4:¬((aq s).size:Int) <4:=by omega
    have i5:(4:Int)≤((aq s).size:Int):=by omega
    have i6:4≤(aq s).size:=by omega
    have hj:Hid (∀W,Calls Tryz.prog 96 #[.string ((aq s).extract 4 (aq s).size)] W (pr ((aq s).extract 4 (aq s).size) W)):=fun W=>H3.o 4 (aq s).size W
    have hq:Hid (∀W,Calls Tryz.prog 97 #[.string ((aq s).extract 0 4)] W fun e w'=>e= .returned (.tuple #[.int .u64 (fh ((aq s).extract 0 4)),.int .i64 (kg ((aq s).extract 0 4))])∧W=w'):=fun W=>H2.o _ W
    unfold pr at hj
    have hC:(kr ((aq s).extract 4 (aq s).size)≠0∧¬gu s)∨(kr ((aq s).extract 4 (aq s).size)=0∧2147483647 <fh ((aq s).extract 0 4)∧¬gu s)∨(kr ((aq s).extract 4 (aq s).size)=0∧fh ((aq s).extract 0 4)≤2147483647∧gu s):=by
     by_cases h1:kr ((aq s).extract 4 (aq s).size)=0
     ·by_cases h2:2147483647 <fh ((aq s).extract 0 4)
      ·exact .inr (.inl ⟨h1,h2,fun k=>by have:=k.2.2.2.2;omega⟩)
      ·exact .inr (.inr ⟨h1,by omega,HO.o,HK.o,by omega,h1,by omega⟩)
     ·exact .inl ⟨h1,fun k=>h1 k.2.2.2.1⟩
    have hF:0≤fh ((aq s).extract 0 4):=by rw [(pv (by simp [ByteArray.size_extract];omega)).1];exact(rz _ (fun j=>bt_nonneg _ _) (fun j=>bt_le _ _) _).1
    have hB:=h_ (Je ((aq s).extract 4 (aq s).size));have hy:=h_ (fun h=>yu (s:=s) h);have hv:=h_ (fun h=>ss (s:=s) HO.o h);clear H2 H3 h4;generalize kr ((aq s).extract 4 (aq s).size)=ie at*;generalize qg ((aq s).extract 4 (aq s).size)=ip at*;generalize nt ((aq s).extract 4 (aq s).size)=ig at*;generalize fh ((aq s).extract 0 4)=uv at*;generalize kg ((aq s).extract 0 4)=ue at*;generalize aq s=T at*;generalize d9 s=N at*;rcases hC with⟨h1,hn⟩|⟨h1,h2,hn⟩|⟨h1,h2,hn⟩
    ·have F:=h_ (hv.o hn);have HN:=h_ hn;have g1:(ie !=0)=true:=bN h1;clear h1 hn;go_enter Tryz.func63,Tryz.ntmps63
     go_wp2_with(first
      |(go_at_call 95;rw [←hd.o];refine(H1.o _).mono ?_;rintro e w1 ⟨rfl,h0⟩;have h3:=h_ (ah h9.o (ag h9.o) h0);have h5:=h_ h0;clear h0)
      |(go_at_call 97;refine(hq.o _).mono ?_;rintro e w2 ⟨rfl,rfl⟩)
      |(go_at_call 96;refine(hj.o _).mono ?_;rintro e w3 ⟨D,q,d,D',q',d',rfl,r3,ha,h7⟩;have hc:=h_ h7;have h8:=h_ (cq (ah h3.o (ag h3.o) h7) (.cells #[.slice D q d,.slice D' q' d'] 43));have hp:=h_ (ah h3.o (ag h3.o) h7);have R3:=h_ r3;have hh:=h_ ha;have m0:=A_ w3 (.cells #[.slice D q d,.slice D' q' d'] 43);have m1:=rc0 m0;have m2:=rc1 m0;clear h7 r3 ha m0)
      |(refine wpList_store_rowTo rfl _ _ _ rfl rfl w.heap.size cf rfl rfl 45 cf h8.o er rfl hg.o ?_))
     refine bodyPost_ret (jj rfl _ _ w.heap.size _ cf (0,0) _ rfl (bh h8.o) Tryz.underlying45 rfl er) rfl ?_;exact ot HN.o F.o (below_setRow ((h6.o.trans ((h5.o.trans (hc.o.mono h5.o.size)).mono h6.o.size)).alloc (h6.o.trans ((h5.o.trans (hc.o.mono h5.o.size)).mono h6.o.size)).size _) ler _)
    ·have F:=h_ (hv.o hn);have HN:=h_ hn;subst h1;clear hn;go_enter Tryz.func63,Tryz.ntmps63
     go_wp2_with(first
      |(go_at_call 95;rw [←hd.o];refine(H1.o _).mono ?_;rintro e w1 ⟨rfl,h0⟩;have h3:=h_ (ah h9.o (ag h9.o) h0);have h5:=h_ h0;clear h0)
      |(go_at_call 97;refine(hq.o _).mono ?_;rintro e w2 ⟨rfl,rfl⟩)
      |(go_at_call 96;refine(hj.o _).mono ?_;rintro e w3 ⟨D,q,d,D',q',d',rfl,r3,ha,h7⟩;have hc:=h_ h7;have h8:=h_ (cq (ah h3.o (ag h3.o) h7) (.cells #[.slice D q d,.slice D' q' d'] 43));have hp:=h_ (ah h3.o (ag h3.o) h7);have R3:=h_ r3;have hh:=h_ ha;have m0:=A_ w3 (.cells #[.slice D q d,.slice D' q' d'] 43);have m1:=rc0 m0;have m2:=rc1 m0;clear h7 r3 ha m0)
      |(refine wpList_store_rowTo rfl _ _ _ rfl rfl w.heap.size cf rfl rfl 45 cf h8.o er rfl hg.o ?_))
     refine bodyPost_ret (jj rfl _ _ w.heap.size _ cf (0,0) _ rfl (bh h8.o) Tryz.underlying45 rfl er) rfl ?_;exact ot HN.o F.o (below_setRow ((h6.o.trans ((h5.o.trans (hc.o.mono h5.o.size)).mono h6.o.size)).alloc (h6.o.trans ((h5.o.trans (hc.o.mono h5.o.size)).mono h6.o.size)).size _) ler _)
    ·have F:=h_ (hy.o hn);subst h1;have g2:¬(2147483647:Int) <uv:=by omega
     have g3:IntKind.i64.wrap uv=uv:=IntWalk.i64_in _ (by omega);clear hn;go_enter Tryz.func63,Tryz.ntmps63
     go_wp2_with(first
      |(go_at_call 95;rw [←hd.o];refine(H1.o _).mono ?_;rintro e w1 ⟨rfl,h0⟩;have h3:=h_ (ah h9.o (ag h9.o) h0);have h5:=h_ h0;clear h0)
      |(go_at_call 97;refine(hq.o _).mono ?_;rintro e w2 ⟨rfl,rfl⟩)
      |(go_at_call 96;refine(hj.o _).mono ?_;rintro e w3 ⟨D,q,d,D',q',d',rfl,r3,ha,h7⟩;have hc:=h_ h7;have h8:=h_ (cq (ah h3.o (ag h3.o) h7) (.cells #[.slice D q d,.slice D' q' d'] 43));have hp:=h_ (ah h3.o (ag h3.o) h7);have R3:=h_ r3;have hh:=h_ ha;have m0:=A_ w3 (.cells #[.slice D q d,.slice D' q' d'] 43);have m1:=rc0 m0;have m2:=rc1 m0;clear h7 r3 ha m0))
     have N1:=h_ (Qq R3.o hp.o);have N2:=h_ (Qr hh.o hB.o hp.o);have hD:=h_ ((h6.o.trans ((h5.o.trans (hc.o.mono h5.o.size)).mono h6.o.size)).alloc (h6.o.trans ((h5.o.trans (hc.o.mono h5.o.size)).mono h6.o.size)).size (.cells #[.slice D q d,.slice D' q' d'] 43));have R4:=h_ (iv R3.o (.cells #[.slice D q d,.slice D' q' d'] 43));have hA:=h_ (iv hh.o (.cells #[.slice D q d,.slice D' q' d'] 43));generalize w3.alloc (.cells #[.slice D q d,.slice D' q' d'] 43)=w4 at*;have k0:=rc0 h8.o;have k1:=rc1 h8.o;have k2:=rc2 h8.o;have k3:=ak h8.o 0;have k4:=ak h8.o 1;have k5:=ak h8.o 2;go_region_law(fail)
     all_goals
      have hm:=b9 (j:=2) (v:=.slice D' q' d') (b9 (j:=1) (v:=.slice D q d) (b9 (w:=w4) (j:=0) (v:=.int .i64 uv) h8.o));have HM:Hid ((((w4.setCell ⟨w.heap.size,0,none⟩ (.int .i64 uv)).setCell ⟨w.heap.size,1,none⟩ (.slice D q d)).setCell ⟨w.heap.size,2,none⟩ (.slice D' q' d')).heap[w.heap.size]?=some (.cells #[.int .i64 uv,.slice D q d,.slice D' q' d'] 45 (0,0))):=hm;have R5:=h_ ((dj (z:=2) (dj (z:=1) (dj (z:=0) R4.o N1.o (.int .i64 uv)) N1.o (.slice D q d)) N1.o (.slice D' q' d')).more (show _≤(((w4.setCell ⟨w.heap.size,0,none⟩ (.int .i64 uv)).setCell ⟨w.heap.size,1,none⟩ (.slice D q d)).setCell ⟨w.heap.size,2,none⟩ (.slice D' q' d')).heap.size by simp [World.setCell]));have hx:=h_ ((dj (z:=2) (dj (z:=1) (dj (z:=0) hA.o N2.o (.int .i64 uv)) N2.o (.slice D q d)) N2.o (.slice D' q' d')).more (show _≤(((w4.setCell ⟨w.heap.size,0,none⟩ (.int .i64 uv)).setCell ⟨w.heap.size,1,none⟩ (.slice D q d)).setCell ⟨w.heap.size,2,none⟩ (.slice D' q' d')).heap.size by simp [World.setCell]));have hE:Hid (Below w.heap.size w (((w4.setCell ⟨w.heap.size,0,none⟩ (.int .i64 uv)).setCell ⟨w.heap.size,1,none⟩ (.slice D q d)).setCell ⟨w.heap.size,2,none⟩ (.slice D' q' d'))):=((hD.o.setCell ler _).setCell ler _).setCell ler _;clear hm k0 k1 k2 k3 k4 k5;generalize(((w4.setCell ⟨w.heap.size,0,none⟩ (.int .i64 uv)).setCell ⟨w.heap.size,1,none⟩ (.slice D q d)).setCell ⟨w.heap.size,2,none⟩ (.slice D' q' d'))=w5 at*;go_wp2;refine bodyPost_ret (jj rfl _ _ w.heap.size _ #[.int .i64 uv,.slice D q d,.slice D' q' d'] (0,0) _ rfl HM.o Tryz.underlying45 rfl er) rfl ?_;exact⟨D,q,d,D',q',d',by rw [F.o.1,F.o.2.1,F.o.2.2.1];rfl,by rw [F.o.2.2.2.1];exact R5.o.drew,by rw [F.o.2.2.2.2];exact hx.o.drew,hE.o.drew⟩
  ·have hn:¬gu s:=fun k=>hk k.2.1
   have F:=h_ (ss HO.o hn);have HN:=h_ hn;have i4:(dg s !=2)=true:=bN hk;clear hn hk;generalize dg s=K at*;generalize aq s=T at*;generalize d9 s=N at*;go_enter Tryz.func63,Tryz.ntmps63
   go_wp2_with(first
    |(go_at_call 95;rw [←hd.o];refine(H1.o _).mono ?_;rintro e w1 ⟨rfl,h0⟩;have h3:=h_ (ah h9.o (ag h9.o) h0);have h5:=h_ h0;clear h0)
    |(refine wpList_store_rowTo rfl _ _ _ rfl rfl w.heap.size cf rfl rfl 45 cf h3.o er rfl hg.o ?_))
   refine bodyPost_ret (jj rfl _ _ w.heap.size _ cf (0,0) _ rfl (bh h3.o) Tryz.underlying45 rfl er) rfl ?_;exact ot HN.o F.o (below_setRow (h6.o.trans (h5.o.mono h6.o.size)) ler _)
 ·obtain⟨hn,e1⟩:=Gx he;have F:=h_ e1;have HN:=h_ hn;have i4:(ch s !=0)=true:=bN he;clear hn e1 he;generalize ch s=E at*;generalize dg s=K at*;generalize aq s=T at*;generalize d9 s=N at*;go_enter Tryz.func63,Tryz.ntmps63
  go_wp2_with(first
   |(go_at_call 95;rw [←hd.o];refine(H1.o _).mono ?_;rintro e w1 ⟨rfl,h0⟩;have h3:=h_ (ah h9.o (ag h9.o) h0);have h5:=h_ h0;clear h0)
   |(refine wpList_store_rowTo rfl _ _ _ rfl rfl w.heap.size cf rfl rfl 45 cf h3.o er rfl hg.o ?_))
  refine bodyPost_ret (jj rfl _ _ w.heap.size _ cf (0,0) _ rfl (bh h3.o) Tryz.underlying45 rfl er) rfl ?_;exact ot HN.o F.o (below_setRow (h6.o.trans (h5.o.mono h6.o.size)) ler _)
end
section
open Go.RowKit
theorem Qw{s:ByteArray}:prE s=0↔gu s:=by
 constructor
 ·intro h;by_cases hk:gu s
  ·exact hk
  ·by_cases ho:ch s=0
   ·rw [ss ho hk]at h;cases h
   ·rw [(Gx ho).2]at h;exact absurd h ho
 ·intro h;exact(yu h).1
theorem sr{s:ByteArray}(h:prE s≠0):prN s=0∧prS s=0∧prP s=[]∧prG s=[]:=Gz (fun k=>h (Qw.2 k))
theorem lz(s:ByteArray):(prG s).length≠1:=by
 unfold prG;split
 ·exact Je _
 ·simp
open Classical in
noncomputable def nh(T t:ByteArray):ByteArray:=if prE t=0∧(prE T≠0∨prN T <prN t)then t else T
noncomputable def pnT(cs:List ByteArray)(ws:List ae):Nat→ByteArray
 |0=>⟨#[]⟩
 |i+1=>nh (pnT cs ws i) (ar cs ws i)
noncomputable def nwT(cs:List ByteArray)(ws:List ae):ByteArray:=if 1 <cs.length then nh (ar cs ws 0) (ar cs ws 1)else ar cs ws 0
theorem q9:prE ⟨#[]⟩≠0:=fun h=>by have:=(Qw.1 h).1;unfold ch at this;rw [if_pos (by decide)]at this;cases this
theorem qe{T t:ByteArray}(h:prE t=0)(h2:prE T≠0∨prN T <prN t):nh T t=t:=if_pos ⟨h,h2⟩
theorem vh{T t:ByteArray}(h:prE t≠0):nh T t=T:=if_neg (fun k=>h k.1)
theorem zc{T t:ByteArray}(h:prE T=0)(h2:¬prN T <prN t):nh T t=T:=if_neg (fun k=>by rcases k.2 with k|k;exact k h;exact h2 k)
def o9(T t:ByteArray):Prop:=prN T=prN t∧prS T=prS t∧prP T=prP t∧prG T=prG t∧(prE T=0↔prE t=0)
theorem Oy(T:ByteArray):o9 T T:=⟨rfl,rfl,rfl,rfl,Iff.rfl⟩
theorem d0x{T t:ByteArray}(h:prE T≠0)(h2:prE t≠0):o9 T t:=by obtain⟨a,b,c,d⟩:=sr h;obtain⟨a',b',c',d'⟩:=sr h2;exact⟨a.trans a'.symm,b.trans b'.symm,c.trans c'.symm,d.trans d'.symm,⟨fun k=>absurd k h,fun k=>absurd k h2⟩⟩
theorem R0(cs:List ByteArray)(ws:List ae):o9 (pnT cs ws 1) (ar cs ws 0):=by
 show o9 (nh ⟨#[]⟩ (ar cs ws 0)) _;by_cases h:prE (ar cs ws 0)=0
 ·rw [qe h (.inl q9)];exact Oy _
 ·rw [vh h];exact d0x q9 h
theorem k0h{T T' t:ByteArray}(h:o9 T T'):o9 (nh T t) (nh T' t):=by
 obtain⟨a,b,c,d,e⟩:=h;by_cases h1:prE t=0
 ·by_cases h2:prE T≠0∨prN T <prN t
  ·rw [qe h1 h2,qe h1 (by rw [←a];rcases h2 with h2|h2;exact .inl (fun k=>h2 (e.2 k));exact .inr h2)];exact Oy _
  ·have h3:prE T=0:=by
    by_cases k:prE T=0
    ·exact k
    ·exact absurd (.inl k) h2
   rw [zc h3 (fun k=>h2 (.inr k)),zc (e.1 h3) (by rw [←a];exact fun k=>h2 (.inr k))];exact⟨a,b,c,d,e⟩
 ·rw [vh h1,vh h1];exact⟨a,b,c,d,e⟩
theorem Ra{cs:List ByteArray}{ws:List ae}{m:Nat}(hm:(1 <cs.length→m=2)∧(¬1 <cs.length→m=1)):o9 (pnT cs ws m) (nwT cs ws):=by
 unfold nwT;by_cases h:1 <cs.length
 ·rw [hm.1 h,if_pos h];exact k0h (R0 cs ws)
 ·rw [hm.2 h,if_neg h];exact R0 cs ws
noncomputable def nwE(cs:List ByteArray)(ws:List ae):Int:=if au cs ws≠0 then au cs ws else if prE (nwT cs ws)=0 then 0 else 18
noncomputable def nwU(cs:List ByteArray)(ws:List ae):ByteArray:=if au cs ws≠0 then⟨#[]⟩else nwT cs ws
theorem S6{cs:List ByteArray}{ws:List ae}(h:au cs ws≠0):nwE cs ws=au cs ws∧prE (nwU cs ws)≠0:=by unfold nwE nwU;rw [if_pos h,if_pos h];exact⟨rfl,q9⟩
theorem vf{cs:List ByteArray}{ws:List ae}(h:au cs ws=0)(h2:prE (nwT cs ws)≠0):nwE cs ws=18∧prE (nwU cs ws)≠0:=by
 have e:¬(au cs ws≠0):=fun g=>g h
 unfold nwE nwU;rw [if_neg e,if_neg e,if_neg h2];exact⟨rfl,h2⟩
theorem ve{cs:List ByteArray}{ws:List ae}(h:au cs ws=0)(h2:prE (nwT cs ws)=0):nwE cs ws=0∧nwU cs ws=nwT cs ws:=by
 have e:¬(au cs ws≠0):=fun g=>g h
 unfold nwE nwU;rw [if_neg e,if_neg e,if_pos h2];exact⟨rfl,rfl⟩
theorem Qp{x z:Int}{s1 s2:Option Addr}{n1 c1 n2 c2 k:Nat}(h:(#[.int .i64 x,.slice s1 n1 c1,.slice s2 n2 c2]:Array Value)[k]?=some (.int .i64 z)):k=0:=by
 match k,h with
 |0,_=>rfl
 |1,h=>simp at h
 |2,h=>simp at h
 |k+3,h=>simp at h
theorem h0h{w:World}{B n c M:Nat}{A:Option Addr}{xs:List aa}{t:TypeId}{x:Int}{s1 s2:Option Addr}{n1 c1 n2 c2:Nat}(r:ab w B A n c aa.cells 2 xs)(hM:w.heap[M]?=some (.cells #[.int .i64 x,.slice s1 n1 c1,.slice s2 n2 c2] t (0,0))):∀b o,A=some ⟨b,o,none⟩→0 <n→b≠M:=fun b o e h0 e2=>by subst e2;have hl:=r.len;obtain⟨b',o',e',_,hc⟩:=r.at_ 0 (xs[0]'(by omega)) (gE (by omega));rw [e]at e';injection e' with e';injection e' with e1 e2 _;subst e1;subst e2;have h1:=hc 1 _ rfl;rw [aj hM]at h1;have:=Qp h1;omega
theorem h0j{w:World}{B n c M:Nat}{A:Option Addr}{xs:List Int}{t:TypeId}{x:Int}{s1 s2:Option Addr}{n1 c1 n2 c2:Nat}(r:ab w B A n c (fun z=>[.int .i64 z]) 1 xs)(hn:xs.length≠1)(hM:w.heap[M]?=some (.cells #[.int .i64 x,.slice s1 n1 c1,.slice s2 n2 c2] t (0,0))):∀b o,A=some ⟨b,o,none⟩→0 <n→b≠M:=fun b o e h0 e2=>by subst e2;have hl:=r.len;obtain⟨b',o',e',_,hc⟩:=r.at_ 1 (xs[1]'(by omega)) (gE (by omega));rw [e]at e';injection e' with e';injection e' with e1 e2 _;subst e1;subst e2;have h1:=hc 0 _ rfl;rw [aj hM]at h1;have:=Qp h1;omega
structure PtR(D:Option Addr)(q d:Nat)(D':Option Addr)(q' d':Nat)(X:List aa)(Y:List Int)(W:World):Prop where
 a1:ab W W.heap.size D q d aa.cells 2 X
 a2:ab W W.heap.size D' q' d' (fun z=>[.int .i64 z]) 1 Y
 one:Y.length≠1
section
variable {D D':Option Addr} {q d q' d' M:Nat} {X:List aa} {Y:List Int} {W W':World} {t:TypeId} {x:Int} {s1 s2:Option Addr} {n1 c1 n2 c2:Nat}
theorem PtR.go(h:PtR D q d D' q' d' X Y W)(hb:Below W.heap.size W W'):PtR D q d D' q' d' X Y W':=⟨(h.a1.below hb).more hb.size,(h.a2.below hb).more hb.size,h.one⟩
theorem PtR.new(h:PtR D q d D' q' d' X Y W)(o:Obj):PtR D q d D' q' d' X Y (W.alloc o):=h.go (br.alloc ler o)
theorem PtR.set3(h:PtR D q d D' q' d' X Y W)(hM:W.heap[M]?=some (.cells #[.int .i64 x,.slice s1 n1 c1,.slice s2 n2 c2] t (0,0)))(u v z:Value):PtR D q d D' q' d' X Y (((W.setCell ⟨M,0,none⟩ u).setCell ⟨M,1,none⟩ v).setCell ⟨M,2,none⟩ z).drew:=
 have h1:=h0h h.a1 hM
 have h2:=h0j h.a2 h.one hM
 ⟨((dj (z:=2) (dj (z:=1) (dj (z:=0) h.a1 h1 u) h1 v) h1 z).more (by simp [World.setCell])).drew,((dj (z:=2) (dj (z:=1) (dj (z:=0) h.a2 h2 u) h2 v) h2 z).more (by simp [World.setCell])).drew,h.one⟩
theorem PtR.nil(W:World):PtR none 0 0 none 0 0 [] [] W:=⟨zd _ _,vj _ _,by simp⟩
theorem pz{cs:Array Value}{x':Int}{G G':Option Addr}{g h g' h':Nat}(hc:cs.size=3)(hM:W.heap[M]?=some (.cells cs t (0,0))):(((W.setCell ⟨M,0,none⟩ (.int .i64 x')).setCell ⟨M,1,none⟩ (.slice G g h)).setCell ⟨M,2,none⟩ (.slice G' g' h')).drew.heap[M]?=some (.cells #[.int .i64 x',.slice G g h,.slice G' g' h'] t (0,0)):=by
 have hm:=b9 (j:=2) (v:=.slice G' g' h') (b9 (j:=1) (v:=.slice G g h) (b9 (j:=0) (v:=.int .i64 x') hM))
 have e:((cs.setIfInBounds 0 (.int .i64 x')).setIfInBounds 1 (.slice G g h)).setIfInBounds 2 (.slice G' g' h')= #[.int .i64 x',.slice G g h,.slice G' g' h']:=by
  obtain⟨l⟩:=cs;match l,hc with
  | [a,b,c],_=>rfl
 rw [e]at hm;exact hm
theorem qt{B:Nat}{w0:World}{u v z:Value}(h:Below B w0 W)(hM:B≤M):Below B w0 (((W.setCell ⟨M,0,none⟩ u).setCell ⟨M,1,none⟩ v).setCell ⟨M,2,none⟩ z).drew:=(((h.setCell (p:=⟨M,0,none⟩) hM _).setCell (p:=⟨M,1,none⟩) hM _).setCell (p:=⟨M,2,none⟩) hM _).drew
end
def qv(cs:List ByteArray)(ws:List ae)(w:World)(e:Ending)(w':World):Prop:=∃A n c A' n' c',e= .returned (.tuple #[.int .i64 (prN (nwU cs ws)),.agg #[.int .i64 (prS (nwU cs ws)),.slice A n c,.slice A' n' c'],.int .i64 (nwE cs ws)])∧ab w' w'.heap.size A n c aa.cells 2 (prP (nwU cs ws))∧ab w' w'.heap.size A' n' c' (fun z=>[.int .i64 z]) 1 (prG (nwU cs ws))∧Below w.heap.size w w'
theorem za{cs:List ByteArray}{ws:List ae}{w w':World}{k:Int}(h:nwE cs ws=k)(h2:prE (nwU cs ws)≠0)(hb:Below w.heap.size w w'):qv cs ws w (.returned (.tuple #[.int .i64 0,.agg cf,.int .i64 k])) w':=by obtain⟨a,b,c,d⟩:=sr h2;exact⟨none,0,0,none,0,0,by rw [a,b,h],by rw [c];exact zd _ _,by rw [d];exact vj _ _,hb⟩
end
end Go.Proofs.YtcldpfhpkbeaiadGreat
