/- A part of the proof of FsMounts. No condition of ours. -/
import Derived.Test.YtcldpfhpkbeaiadGreatFsMounts33
set_option maxRecDepth 20000
set_option maxHeartbeats 4000000
namespace Go.Proofs.YtcldpfhpkbeaiadGreat
open Go.RowKit Go.PlainAid
theorem p0h(s:ByteArray)(w:World):Calls Tryz.prog 50 #[.string s] w (pr s w):=by
 have HF:=h_ q0m;have hY:Hid (∀b b':Nat,((p8 b b').all (·.oneCell'))=true):=fun b b'=>by simp [p8,Value.oneCell']
 have h5:Hid ((b8:Array Value).all (·.oneCell')=true):=by simp [Hid,Value.oneCell']
 have hA:=h_ (A_ w (.cells b8 43));have hL:Hid (Below w.heap.size w (w.alloc (.cells b8 43))):=br.alloc ler _;have hu:(w.alloc (.cells b8 43)).heap.size=w.heap.size+1:=by simp
 have h3:=h_ hu;clear hu;go_enter Tryz.func50,Tryz.ntmps50
 go_wp2_with(first
  |(go_at_call 86;refine(HF.o _).mono ?_;rintro e w1 ⟨b,b',rfl,hp,hg,hv,hH,hD,hm⟩;have HP:=h_ hp;have HG:=h_ hg;have hd:=h_ hv;have hW:=h_ hm;clear hp hg hv hm)
  |(refine wpList_store_rowTo rfl _ _ _ rfl rfl w1.heap.size (p8 b b') rfl rfl 43 b8 (A_ w1 _) d8 rfl (hY.o b b') ?_;obtain⟨w2,hh⟩:∃w2,(w1.alloc (.cells b8 43)).setRow w1.heap.size (p8 b b')=w2:=⟨_,rfl⟩;rw [hh];have hq:w2.heap[w1.heap.size]?=some (.cells (p8 b b') 43):=(by rw [←hh];exact bh (A_ w1 _));have hF:=rc0 hq;have hZ:=h_ hq;have hn:=h_ hh;clear hq hh))
 obtain⟨M,hM⟩:∃M,M=w1.heap.size:=⟨_,rfl⟩;have hs:=hd.o.size;rw [h3.o]at hs;have hy:w.heap.size <b:=by have:=h3.o;simp at hH;omega
 have hC:w.heap.size <b':=by have:=h3.o;simp at hD;omega
 have hX:=ag HP.o;have hB:=ag HG.o
 have ha:∀k x,k <w1.heap.size→w1.heap[k]?=x→w2.heap[k]?=x:=fun k x hk hx=>by rw [←hn.o,setRow_other _ _ _ _ (by omega),heap_alloc_old _ _ hk];exact hx
 have hI:mc s w w2 b b' w1.heap.size 0:=⟨fun j hj=>by omega,Rf (ha _ _ hX HP.o) (Zd s) (by rfl) (by omega) (by decide),Rf (ha _ _ hB HG.o) (Ze s) (by rfl) (by omega) (by decide),⟨hW.o,by omega,by omega⟩,⟨hy,hC,by omega⟩,hZ.o,ha _ _ (by omega) ((hd.o.block _ (by rw [h3.o];omega)).trans hA.o),by
 rw [←hn.o];exact below_setRow (((hL.o.trans (hd.o.mono (by rw [h3.o];omega))).alloc (by omega) _)) (by omega) _⟩
 have HI:=h_ hI;rw [←hM]at HI hF⊢;clear hI ha hX hB hy hC hs hn hZ hd HP HG hW hH hD hM hA hL h3 HF;go_wp2;go_loopw [0,13] (fun v0 v13 wr=>∃i:Nat,i≤48∧v0= .string (tl s (am s i))∧v13= .int .i64 i∧mc s w wr b b' M i) (fun _ v13 _=>48- (intOf v13).toNat)
 case atStart=>exact⟨0,zl,by rw [show am s 0=0 from rfl,Nr],rfl,HI.o⟩
 case round=>
  obtain⟨i,hi,rfl,rfl,hI⟩:=hrel;have h0:=h_ hI;clear HI hF hI;by_cases hlt:i <48
  ·have i1:(i:Int) <48:=by omega
   have h2:Hid (¬JOk s (am s i)→¬jr s):=fun h k=>h (k.all i hlt)
   have H:Hid (∀W,Calls Tryz.prog 87 #[.string (tl s (am s i))] W fun e w'=>e= .returned (.tuple #[.int .u64 (c9 (bt (tl s (am s i))) (tl s (am s i)).size),.int .i64 (ck (bt (tl s (am s i))) (tl s (am s i)).size),.int .i64 (jE s (am s i))])∧W=w'):=fun W=>wh _ W
   by_cases hE:jE s (am s i)=0
   ·obtain⟨a1,a2,a3,a4,a5⟩:=Tz hE;rw [a1,a2,hE]at H;have h8:=lx s (am s i);by_cases hV:jV s (am s i)≤2147483647
    ·by_cases hf:am s i+jK s (am s i)+2≤s.size
     ·have hR:JOk s (am s i):=⟨hE,hV,hf⟩;have hw:=j0a s hlt;have hK:=q0c s hlt;obtain⟨g1,g2⟩:=j0b s hlt;have g3:=q0d s hlt;obtain⟨c1,f1⟩:=h0.o.ats.here g1;obtain⟨c2,f2⟩:=h0.o.ats.here g2;obtain⟨c3,f3⟩:=h0.o.gens.here g3;simp only [Nat.zero_add]at c1 c2 c3 f1 f2 f3;have m0:=rc0 h0.o.m;have m1:=rc1 h0.o.m;have hS:bt (tl s (am s i)) (jK s (am s i))=(jpl s (am s i)).Cell:=l9 s _ _ _ (by omega) ler;have hJ:bt (tl s (am s i)) (jK s (am s i)+1)=(jpl s (am s i)).Nth:=(l9 s _ _ _ (by omega) ler).trans (by show bt s _=bt s _;congr 1);have hr:=get_bt (tl s (am s i));have ht:am s (i+1)=am s i+(jK s (am s i)+2):=rfl;have hQ:tl s (am s (i+1))=(tl s (am s i)).extract (jK s (am s i)+2) (tl s (am s i)).size:=by rw [ug,ht]
      have g6:=h_ hQ;have hU:=h_ hR;have hz:=h_ hw;have hN:=h_ hK;have b1:=bt_nonneg (tl s (am s i)) (jK s (am s i));have b2:=bt_le (tl s (am s i)) (jK s (am s i));have b3:=bt_nonneg (tl s (am s i)) (jK s (am s i)+1);have b4:=bt_le (tl s (am s i)) (jK s (am s i)+1);have h7:=lf (P:=Tryz.prog) Tryz.underlying9 (tl s (am s i)) (jK s (am s i):Int) (jK s (am s i)) _ rfl (by omega) (hr (jK s (am s i)) (by omega));have h9:=lf (P:=Tryz.prog) Tryz.underlying9 (tl s (am s i)) ((jK s (am s i):Int)+1) (jK s (am s i)+1) _ (by simp) (by omega) (hr (jK s (am s i)+1) (by omega));rw [hS]at h7 b1 b2;rw [hJ]at h9 b3 b4;have g4:jK s (am s i)+2≤(tl s (am s i)).size:=by omega
      clear hw hK g1 g2 g3 hE hR hQ hS hJ hr ht hf a1 a2 h2 h8 a5;generalize(jpl s (am s i)).Cell=B1 at*;generalize(jpl s (am s i)).Nth=B2 at*;generalize jK s (am s i)=K at*;generalize jV s (am s i)=V at*;generalize tl s (am s i)=T at*;have j1:(K:Int)+2≤(T.size:Int):=by omega
      have j2:(V:Int)≤2147483647:=by omega
      have k1:IntKind.i64.wrap ((K:Int)+1)=(K:Int)+1:=by rw [IntKind.wrap_i64];omega
      have k2:IntKind.i64.wrap (V:Int)=V:=by rw [IntKind.wrap_i64];omega
      have k3:IntKind.i64.wrap B1=B1:=by rw [IntKind.wrap_i64];omega
      have k4:IntKind.i64.wrap B2=B2:=by rw [IntKind.wrap_i64];omega
      have i0:(0:Int)≤(i:Int):=by omega
      have g5:=h_ (And.intro h7 (And.intro h9 (And.intro k1 (And.intro k2 (And.intro k3 k4)))));clear h7 h9 k1 k2 k3 k4;go_wp2_with(go_at_call 87;refine(H.o _).mono ?_;rintro e w' ⟨rfl,rfl⟩);obtain⟨h7,h9,k1,k2,k3,k4⟩:=g5.o;have hc:b≠b':=h0.o.ne.1;have n1:(wr.setCell ⟨b',i,none⟩ (.int .i64 (V:Int))).cell? ⟨b,i*2,none⟩=some (.int .i64 0):=(World.cell?_setCell_other _ _ _ _ (fun e=>hc (by injection e with e;exact e.symm))).trans c1;have n2:((wr.setCell ⟨b',i,none⟩ (.int .i64 (V:Int))).setCell ⟨b,i*2,none⟩ (.int .i64 B1)).cell? ⟨b,i*2+1,none⟩=some (.int .i64 0):=(World.cell?_setCell_other _ _ _ _ (fun e=>by injection e with _ e;omega)).trans ((World.cell?_setCell_other _ _ _ _ (fun e=>hc (by injection e with e;exact e.symm))).trans c2);have n3:(wr.setCell ⟨b,i*2,none⟩ (.int .i64 B1)).cell? ⟨b,i*2+1,none⟩=some (.int .i64 0):=(World.cell?_setCell_other _ _ _ _ (fun e=>by injection e with _ e;omega)).trans c2;have n4:((wr.setCell ⟨b,i*2,none⟩ (.int .i64 B1)).setCell ⟨b,i*2+1,none⟩ (.int .i64 B2)).cell? ⟨b',i,none⟩=some (.int .i64 0):=(World.cell?_setCell_other _ _ _ _ (fun e=>hc (by injection e with e))).trans ((World.cell?_setCell_other _ _ _ _ (fun e=>hc (by injection e with e))).trans c3);have S0:wr.cell? ⟨M,0,none⟩=some (.slice (some ⟨b,0,none⟩) 48 48)∧wr.cell? ⟨M,1,none⟩=some (.slice (some ⟨b',0,none⟩) 48 48):=⟨m0,m1⟩;have q1:M≠b:=fun e=>h0.o.ne.2.1 e.symm
      have q2:M≠b':=fun e=>h0.o.ne.2.2 e.symm
      clear m0 m1
      go_region_held3 (fun W=>W.cell? ⟨M,0,none⟩=some (.slice (some ⟨b,0,none⟩) 48 48)∧W.cell? ⟨M,1,none⟩=some (.slice (some ⟨b',0,none⟩) 48 48))
       (first|assumption|exact J4 (by assumption)|exact J3 q2 (by assumption)|exact o0d q1 (by assumption))
       (fail)
      all_goals
       have HN:Hid (mc s w (((wr.setCell ⟨b',i,none⟩ (.int .i64 (V:Int))).setCell ⟨b,i*2,none⟩ (.int .i64 B1)).setCell ⟨b,i*2+1,none⟩ (.int .i64 B2)).drew b b' M (i+1)∧mc s w (((wr.setCell ⟨b,i*2,none⟩ (.int .i64 B1)).setCell ⟨b,i*2+1,none⟩ (.int .i64 B2)).setCell ⟨b',i,none⟩ (.int .i64 (V:Int))).drew b b' M (i+1)):=⟨(h0.o.stepA hU.o hz.o hN.o).drew,(h0.o.stepB hU.o hz.o hN.o).drew⟩;clear n1 n2 n3 n4 S0 c1 c2 c3 f1 f2 f3 h7 h9 k1 k2 k3 k4;go_wp2;go_roundw
       case rel=>exact⟨i+1,by omega,by rw [g6.o],by go_num,by first|exact HN.o.1|exact HN.o.2⟩
       case measure=>(simp [intOf];try omega)
     ·have F:=h_ (h2.o fun k=>hf k.fits);have g4:¬jK s (am s i)+2≤(tl s (am s i)).size:=by omega
      clear h2 hE hf a1 a2 h8 a5;generalize jK s (am s i)=K at*;generalize jV s (am s i)=V at*;generalize tl s (am s i)=T at*;have j1:(T.size:Int) < (K:Int)+2:=by omega
      have j2:(V:Int)≤2147483647:=by omega
      go_wp2_with(first
       |(go_at_call 87;refine(H.o _).mono ?_;rintro e w' ⟨rfl,rfl⟩)
       |(refine wpList_store_rowTo rfl _ _ _ rfl rfl w.heap.size b8 rfl rfl 43 b8 h0.o.res d8 rfl h5.o ?_))
      refine bodyPost_ret (cv rfl _ _ w.heap.size _ b8 (0,0) _ rfl (bh h0.o.res) Tryz.underlying43 rfl d8) rfl ?_;exact oz F.o (below_setRow h0.o.bel ler _)
    ·have F:=h_ (h2.o fun k=>hV k.top);clear h2 hE a1 a2 h8 a5;generalize jK s (am s i)=K at*;generalize jV s (am s i)=V at*;generalize tl s (am s i)=T at*;have j2:(2147483647:Int) < (V:Int):=by omega
     go_wp2_with(first
      |(go_at_call 87;refine(H.o _).mono ?_;rintro e w' ⟨rfl,rfl⟩)
      |(refine wpList_store_rowTo rfl _ _ _ rfl rfl w.heap.size b8 rfl rfl 43 b8 h0.o.res d8 rfl h5.o ?_))
     refine bodyPost_ret (cv rfl _ _ w.heap.size _ b8 (0,0) _ rfl (bh h0.o.res) Tryz.underlying43 rfl d8) rfl ?_;exact oz F.o (below_setRow h0.o.bel ler _)
   ·have hm:(jE s (am s i)!=0)=true:=bN hE;have F:=h_ (h2.o fun k=>hE k.num);clear h2 hE;generalize c9 (bt (tl s (am s i))) (tl s (am s i)).size=V at*;generalize ck (bt (tl s (am s i))) (tl s (am s i)).size=NN at*;generalize jE s (am s i)=E at*;generalize tl s (am s i)=T at*
    go_wp2_with(first
     |(go_at_call 87;refine(H.o _).mono ?_;rintro e w' ⟨rfl,rfl⟩)
     |(refine wpList_store_rowTo rfl _ _ _ rfl rfl w.heap.size b8 rfl rfl 43 b8 h0.o.res d8 rfl h5.o ?_))
    refine bodyPost_ret (cv rfl _ _ w.heap.size _ b8 (0,0) _ rfl (bh h0.o.res) Tryz.underlying43 rfl d8) rfl ?_;exact oz F.o (below_setRow h0.o.bel ler _)
  ·obtain rfl:i=48:=by omega
   have i1:¬((48:Nat):Int) <48:=by omega
   have m0:=rc0 h0.o.m;have m1:=rc1 h0.o.m;obtain⟨hP,hG⟩:=I5 s;have r1:=h0.o.ats;have r2:=h0.o.gens;rw [hP]at r1;rw [hG]at r2;have R1:=h_ (r1.rows su (by omega));have R2:=h_ (qb r2);have H:Hid (Calls Tryz.prog 52 #[.agg #[.slice (some ⟨b,0,none⟩) 48 48,.slice (some ⟨b',0,none⟩) 48 48]] wr fun e w'=>e= .returned (.int .i64 (bu (jPl s 48) (jGs s 48)))∧Below wr.heap.size wr w'):=zu _ _ _ _ _ _ _ _ wr R1.o R2.o;clear r1 r2 hP hG;by_cases he:am s 48=s.size
   ·have hT:tl s (am s 48)=⟨#[]⟩:=by rw [he];unfold tl;apply ByteArray.ext;rw [ByteArray.data_extract];apply Array.ext';simp
    rw [hT];clear hT;by_cases hE:bu (jPl s 48) (jGs s 48)=0
    ·have F:=h_ (Jd (s:=s) ⟨h0.o.all,he,hE⟩);rw [hE]at H;clear hE
     go_wp2_with(first
      |(go_at_call 52;refine H.o.mono ?_;rintro e w3 ⟨rfl,h1⟩;have g0:=h_ (ah h0.o.m (ag h0.o.m) h1);have h6:=h_ (ah h0.o.res (ag h0.o.res) h1);have k0:=rc0 g0.o;have k1:=rc1 g0.o;have h4:=h_ h1;clear h1)
      |(refine wpList_store_rowTo rfl _ _ _ rfl rfl w.heap.size (p8 b b') rfl rfl 43 b8 h6.o d8 rfl (hY.o b b') ?_))
     refine bodyPost_ret (cv rfl _ _ w.heap.size _ (p8 b b') (0,0) _ rfl (bh h6.o) Tryz.underlying43 rfl d8) rfl ?_;have o1:=(h0.o.ats.fresh_below h4.o).setRow (b:=w.heap.size) (by omega) (p8 b b');have o2:=(h0.o.gens.fresh_below h4.o).setRow (b:=w.heap.size) (by omega) (p8 b b');rw [(I5 s).1]at o1;rw [(I5 s).2]at o2;exact⟨some ⟨b,0,none⟩,48,48,some ⟨b',0,none⟩,48,48,by rw [F.o.1];rfl,by rw [F.o.2.1];exact o1.rows su (by omega),by rw [F.o.2.2];exact qb o2,below_setRow (h0.o.bel.trans (h4.o.mono h0.o.bel.size)) ler _⟩
    ·have F:Hid (¬jr s):=fun k=>hE k.right
     have hm:(bu (jPl s 48) (jGs s 48)!=0)=true:=bN hE;generalize bu (jPl s 48) (jGs s 48)=ee at*;clear hE
     go_wp2_with(first
      |(go_at_call 52;refine H.o.mono ?_;rintro e w3 ⟨rfl,h1⟩;have h6:=h_ (ah h0.o.res (ag h0.o.res) h1);have h4:=h_ h1;clear h1)
      |(refine wpList_store_rowTo rfl _ _ _ rfl rfl w.heap.size b8 rfl rfl 43 b8 h6.o d8 rfl h5.o ?_))
     refine bodyPost_ret (cv rfl _ _ w.heap.size _ b8 (0,0) _ rfl (bh h6.o) Tryz.underlying43 rfl d8) rfl ?_;exact oz F.o (below_setRow (h0.o.bel.trans (h4.o.mono h0.o.bel.size)) ler _)
   ·have F:Hid (¬jr s):=fun k=>he k.end_
    have g8:=o0h h0.o.all;have h8:=lx s (am s 48);generalize tl s (am s 48)=T at*;have g7:T.toList≠ []:=Nn (by omega);clear he h8;go_wp2_with(refine wpList_store_rowTo rfl _ _ _ rfl rfl w.heap.size b8 rfl rfl 43 b8 h0.o.res d8 rfl h5.o ?_);refine bodyPost_ret (cv rfl _ _ w.heap.size _ b8 (0,0) _ rfl (bh h0.o.res) Tryz.underlying43 rfl d8) rfl ?_;exact oz F.o (below_setRow h0.o.bel ler _)
structure Aw(s:ByteArray)(w wr:World)(A A':Option Addr)(c c' i:Nat):Prop where
 all:∀j,j <i→JOk s (am s j)
 ats:af wr (w.heap.size+2) 2 (.slice A i c) i ((jPl s i).flatMap aa.cells)
 gens:af wr (w.heap.size+2) 1 (.slice A' i c') i ((jGs s i).map (Value.int .i64))
 ap:gq (.slice A' i c') (.slice A i c)
 m:wr.heap[w.heap.size+1]?=some (.cells #[.slice A i c,.slice A' i c'] 43 (0,0))
 res:wr.heap[w.heap.size]?=some (.cells b8 43 (0,0))
 bel:Below w.heap.size w wr
 sz:w.heap.size+2≤wr.heap.size
 le:i≤48
 lp:am s i≤s.size
def b0y:Value→Nat
 | .string s=>s.size
 |_=>0
theorem Aw.start(s:ByteArray)(w:World):Aw s w ((w.alloc (.cells b8 43)).alloc (.cells b8 43)) none none 0 0 0:=
 ⟨fun j hj=>by omega,af.nil _ _ _,af.nil _ _ _,gq.nil _ _ _,by
   have:=A_ (w.alloc (.cells b8 43)) (.cells b8 43)
   rw [show(w.alloc (.cells b8 43)).heap.size=w.heap.size+1 by simp]at this
   exact this,(heap_alloc_old _ _ (by simp)).trans (A_ w _),(br.alloc ler _).alloc (by simp) _,by simp,by omega,by simp [am]⟩
theorem p0j{s:ByteArray}{w w':World}{A A':Option Addr}{c c':Nat}(h:jr s)(r:ab w' w'.heap.size A 48 c aa.cells 2 (jPl s 48))(r':ab w' w'.heap.size A' 48 c' (fun z=>[.int .i64 z]) 1 (jGs s 48))(hb:Below w.heap.size w w'):pr s w (.returned (.tuple #[.agg #[.slice A 48 c,.slice A' 48 c'],.int .i64 0])) w':=by obtain⟨a,b,d⟩:=Jd h;exact⟨A,48,c,A',48,c',by rw [a],by rw [b];exact r,by rw [d];exact r',hb⟩
theorem p0k(s:ByteArray)(w:World)(hs:s.size≤140737488351232):Calls Tryz.prog 96 #[.string s] w (pr s w):=by
 have hg:Hid ((b8:Array Value).all (·.oneCell')=true):=by simp [Hid,Value.oneCell']
 have g8:Hid (∀(A A':Option Addr) (n c n' c':Nat),((#[.slice A n c,.slice A' n' c']:Array Value).all (·.oneCell'))=true):=fun _ _ _ _ _ _=>by simp [Value.oneCell']
 have HI:=h_ (Aw.start s w);go_enter Tryz.func96,Tryz.ntmps96;go_wp2;go_loopw [5] (fun v5 wr=>∃(i:Nat) (A A':Option Addr) (c c':Nat),v5= .string (tl s (am s i))∧Aw s w wr A A' c c' i) (fun v5 _=>b0y v5)
 case atStart=>exact⟨0,none,none,0,0,by rw [show am s 0=0 from rfl,Nr],HI.o⟩
 case round=>
  obtain⟨i,A,A',c,c',rfl,hI⟩:=hrel;have h0:=h_ hI;clear HI hI;have hd:=lx s (am s i);have h8:=h0.o.lp;have m0:=rc0 h0.o.m;have m1:=rc1 h0.o.m;by_cases hlt:am s i <s.size
  ·have ga:(!(tl s (am s i)).toList.isEmpty)=true:=by have:=Nn (T:=tl s (am s i)) (by omega);simpa using this
   have h3:=h_ (fun k:jr s=>p0g k hlt);have H:Hid (∀W,Calls Tryz.prog 100 #[.string (tl s (am s i))] W fun e w'=>e= .returned (.tuple #[.int .u64 (c9 (bt (tl s (am s i))) (tl s (am s i)).size),.int .i64 (ck (bt (tl s (am s i))) (tl s (am s i)).size),.int .i64 (jE s (am s i))])∧W=w'):=fun W=>ru _ W (by omega)
   by_cases hE:jE s (am s i)=0
   ·obtain⟨a1,a2,a3,a4,a5⟩:=Tz hE;rw [a1,a2,hE]at H;by_cases hV:jV s (am s i)≤2147483647
    ·by_cases hf:am s i+jK s (am s i)+2≤s.size
     ·by_cases hy:i=48
      ·subst hy;have F:=h_ (show ¬jr s from fun k=>by have:=(h3.o k).1;omega);have hJ:jK s (am s 48)+2≤(tl s (am s 48)).size:=by omega
       clear h3 hE hf a1 a2 hd a5 hlt h8;generalize jK s (am s 48)=K at*;generalize jV s (am s 48)=V at*;generalize tl s (am s 48)=T at*;have j1:(K:Int)+2≤(T.size:Int):=by omega
       have j2:(V:Int)≤2147483647:=by omega
       go_wp2_with(first
        |(go_at_call 100;refine(H.o _).mono ?_;rintro e w' ⟨rfl,rfl⟩)
        |(refine wpList_store_rowTo rfl _ _ _ rfl rfl w.heap.size b8 rfl rfl 43 b8 h0.o.res d8 rfl hg.o ?_))
       refine bodyPost_ret (cv rfl _ _ w.heap.size _ b8 (0,0) _ rfl (bh h0.o.res) Tryz.underlying43 rfl d8) rfl ?_;exact oz F.o (below_setRow h0.o.bel ler _)
      ·have hi:i <48:=by have:=h0.o.le;omega
       have ha:JOk s (am s i):=⟨hE,hV,hf⟩;have hL:bt (tl s (am s i)) (jK s (am s i))=(jpl s (am s i)).Cell:=l9 s _ _ _ (by omega) ler;have hC:bt (tl s (am s i)) (jK s (am s i)+1)=(jpl s (am s i)).Nth:=(l9 s _ _ _ (by omega) ler).trans (by show bt s _=bt s _;congr 1);have hv:=get_bt (tl s (am s i));have hp:am s (i+1)=am s i+(jK s (am s i)+2):=rfl;have hK:tl s (am s (i+1))=(tl s (am s i)).extract (jK s (am s i)+2) (tl s (am s i)).size:=by rw [ug,hp]
       have hN:=h_ hK;have g7:=h_ ha;have hR:Hid (am s (i+1)≤s.size):=by simp only [Hid];omega
       have hW:Hid ((jGs s (i+1)).map (Value.int .i64)=(jGs s i).map (Value.int .i64)++[.int .i64 (jV s (am s i))]):=by simp only [Hid];rw [U1,List.map_append];rfl
       have g3:Hid ((jPl s (i+1)).flatMap aa.cells=(jPl s i).flatMap aa.cells++[.int .i64 (jpl s (am s i)).Cell,.int .i64 (jpl s (am s i)).Nth]):=by simp only [Hid];rw [U0,List.flatMap_append];simp [aa.cells]
       have b1:=bt_nonneg (tl s (am s i)) (jK s (am s i));have b2:=bt_le (tl s (am s i)) (jK s (am s i));have b3:=bt_nonneg (tl s (am s i)) (jK s (am s i)+1);have b4:=bt_le (tl s (am s i)) (jK s (am s i)+1);have hh:=lf (P:=Tryz.prog) Tryz.underlying9 (tl s (am s i)) (jK s (am s i):Int) (jK s (am s i)) _ rfl (by omega) (hv (jK s (am s i)) (by omega));have hk:=lf (P:=Tryz.prog) Tryz.underlying9 (tl s (am s i)) ((jK s (am s i):Int)+1) (jK s (am s i)+1) _ (by simp) (by omega) (hv (jK s (am s i)+1) (by omega));rw [hL]at hh b1 b2;rw [hC]at hk b3 b4;have hJ:jK s (am s i)+2≤(tl s (am s i)).size:=by omega
       have hF:(tl s (am s (i+1))).size < (tl s (am s i)).size:=by rw [lx,lx,hp];omega
       have hZ:=h_ hF;clear hE ha hK hL hC hv hp hf a1 a2 hd a5 hlt h3 hF h8;generalize(jpl s (am s i)).Cell=B1 at*;generalize(jpl s (am s i)).Nth=B2 at*;generalize jK s (am s i)=K at*;generalize jV s (am s i)=V at*;generalize tl s (am s i)=T at*;have j1:(K:Int)+2≤(T.size:Int):=by omega
       have j2:(V:Int)≤2147483647:=by omega
       have j3:((i:Int)==48)=false:=by rw [beq_eq_false_iff_ne];omega
       have k1:IntKind.i64.wrap ((K:Int)+1)=(K:Int)+1:=by rw [IntKind.wrap_i64];omega
       have k3:IntKind.i64.wrap B1=B1:=by rw [IntKind.wrap_i64];omega
       have k4:IntKind.i64.wrap B2=B2:=by rw [IntKind.wrap_i64];omega
       have g4:=h_ (And.intro hh (And.intro hk (And.intro k1 (And.intro k3 k4))));have hB:=h0.o.sz;have f1:=ak h0.o.m 1;have G2:Hid (∀u∈(#[.int .i64 B1,.int .i64 B2]:Array Value).toList,u.oneCell'=true):=by simp [Hid,Value.oneCell']
       have G3:Hid (i+1≤maxLen∧(i+1)*16≤140737488355328):=by unfold maxLen Hid;omega
       have G4:Hid (0 <2):=by simp [Hid]
       clear hh hk k1 k3 k4
       go_wp2_with(first
        |(go_at_call 100;refine(H.o _).mono ?_;rintro e w' ⟨rfl,rfl⟩)
        |(at_builtin;refine dx rfl rfl Tryz.underlying41 ta rfl (Nat.le_refl 1) h0.o.gens rfl hB rfl rfl rfl ?_ ?_ ?_ ?_;simp [Value.oneCell'];(unfold maxLen;omega);omega;intro A3 c3 w3 hu h9 hH;have h4:=dw h0.o.m h9 (fun e=>by have:=(h0.o.gens.lt _ e).1;omega);have g0:=rc0 h4;have g1:=rc1 h4;have g2:=ak h4 1))
       have hD:=h_ (hu.setOther (p:=⟨w.heap.size+1,1,none⟩) (fun e=>by have e2:w.heap.size+2≤w.heap.size+1:=(hu.lt _ e).1;omega) (.slice A3 (i+1) c3));have hr:=h0.o.ats.apart h9 h0.o.ap;have hn:=h_ (hr.setOther (p:=⟨w.heap.size+1,1,none⟩) (fun e=>by have e2:w.heap.size+2≤w.heap.size+1:=(hr.lt _ e).1;omega) (.slice A3 (i+1) c3));have hz:=h_ (h0.o.ap.grow hH (fun g e=>(h0.o.ats.lt g e).2));have ht:=h_ (b9 (j:=1) (v:=.slice A3 (i+1) c3) h4);have hM:=h_ (cp (a:=⟨w.heap.size+1,1,none⟩) (v:=.slice A3 (i+1) c3) (dw h0.o.res h9 (fun e=>by have:=(h0.o.gens.lt _ e).1;omega)) (show w.heap.size≠w.heap.size+1 by omega));have hA:Hid (Below w.heap.size w (w3.setCell ⟨w.heap.size+1,1,none⟩ (.slice A3 (i+1) c3))):=(h9.below (by omega) h0.o.bel).setCell (by simp) _;have gg:w.heap.size+2≤(w3.setCell ⟨w.heap.size+1,1,none⟩ (.slice A3 (i+1) c3)).heap.size:=by have:=h9.size;simp [World.setCell];omega
       clear hu h9 hH h4 g0 g1 g2 hr m0 m1 f1 hB;generalize w3.setCell ⟨w.heap.size+1,1,none⟩ (.slice A3 (i+1) c3)=W4 at*;generalize hU:(jPl s i).flatMap aa.cells=U at*;have hX:=h_ h0.o.all;have GO:Hid (af (W4.alloc (.cells #[.int .i64 B1,.int .i64 B2] 89)).drew (w.heap.size+2) 2 (.slice A i c) i U):=(hn.o.alloc _).drew;have GG:Hid (af (W4.alloc (.cells #[.int .i64 B1,.int .i64 B2] 89)).drew (w.heap.size+2) 1 (.slice A3 (i+1) c3) (i+1) ((jGs s i).map (Value.int .i64)++[.int .i64 (V:Int)])):=(hD.o.alloc _).drew;have GB:Hid (w.heap.size+2≤(W4.alloc (.cells #[.int .i64 B1,.int .i64 B2] 89)).drew.heap.size):=by simp [Hid];omega
       have GH:Hid ((W4.alloc (.cells #[.int .i64 B1,.int .i64 B2] 89)).drew.heap[W4.heap.size]?=some (.cells #[.int .i64 B1,.int .i64 B2] 89)):=A_ W4 _;have GR:Hid ((W4.alloc (.cells #[.int .i64 B1,.int .i64 B2] 89)).drew.heap[w.heap.size+1]?=some (.cells #[.slice A i c,.slice A3 (i+1) c3] 43)):=cq ht.o _;have hQ:Hid ((W4.alloc (.cells #[.int .i64 B1,.int .i64 B2] 89)).drew.heap[w.heap.size]?=some (.cells b8 43)):=cq hM.o _;have GZ:Hid (Below w.heap.size w (W4.alloc (.cells #[.int .i64 B1,.int .i64 B2] 89)).drew):=(hA.o.alloc (by omega) _).drew;have N1:Hid (Value.ownBlock (.slice A i c)≠some (w.heap.size+1)):=fun e=>by have:=(hn.o.lt _ e).1;omega
       have N0:Hid (Value.ownBlock (.slice A i c)≠some w.heap.size):=fun e=>by have:=(hn.o.lt _ e).1;omega
       have m0:=rc0 ht.o;have gb:w.heap.size+1 <W4.heap.size:=by omega
       have gs:=rc0 GR.o;obtain⟨hh,hk,k1,k3,k4⟩:=g4.o;clear hD hn ht hM hA h0 H
       go_region_law(first
        |(refine oh (P:=Tryz.prog) (e:=89) (z:=.agg #[.int .i64 0,.int .i64 0]) (size:=2) (bytes:=16) (base:=w.heap.size+2) rfl (.tmp 46) (.tmp 57) 40 rfl Tryz.underlying40 t7 rfl G4.o A i c U rfl GO.o GB.o W4.heap.size 1 #[.int .i64 B1,.int .i64 B2] 89 rfl GH.o rfl G2.o G3.o.1 G3.o.2 ?_;intro A5 c5 w5 hw hc hG;have hm:=dw GR.o hc N1.o;have hq:=aj hm 0;have hf:=ak hm 0;simp only [sA,sC]at hq))
       all_goals
        have o5:=hw.setOther (p:=⟨w.heap.size+1,0,none⟩) (fun e=>by have e2:w.heap.size+2≤w.heap.size+1:=(hw.lt _ e).1;omega) (.slice A5 (i+1) c5);have g5:=GG.o.apart hc hz.o.symm;have g6:=g5.setOther (p:=⟨w.heap.size+1,0,none⟩) (fun e=>by have e2:w.heap.size+2≤w.heap.size+1:=(g5.lt _ e).1;omega) (.slice A5 (i+1) c5)
        have HN:Hid (Aw s w (w5.setCell ⟨w.heap.size+1,0,none⟩ (.slice A5 (i+1) c5)) A5 A3 c5 c3 (i+1)):=⟨fun j hj=>by
 by_cases e:j=i
 ·subst e;exact g7.o
 ·exact hX.o j (by omega),by rw [g3.o];exact o5,by rw [hW.o];exact g6,(hz.o.symm.grow hG (fun g e=>(GG.o.lt g e).2)).symm,b9 (j:=0) (v:=.slice A5 (i+1) c5) hm,cp (a:=⟨w.heap.size+1,0,none⟩) (v:=.slice A5 (i+1) c5) (dw hQ.o hc N0.o) (show w.heap.size≠w.heap.size+1 by omega),(hc.below (by omega) GZ.o).setCell (by simp) _,by have h1:=hc.size;have h2:=GB.o;simp [World.setCell]at*;omega,by omega,hR.o⟩
        clear hq hf hm hc hw hG o5 g5 g6 GO GB GH GR hQ GZ GG;generalize w5.setCell ⟨w.heap.size+1,0,none⟩ (.slice A5 (i+1) c5)=w6 at*;clear hh hk k1 k3 k4;go_wp2;refine⟨⟨i+1,A5,A3,c5,c3,by rw [hN.o],HN.o⟩,?_⟩;rw [←hN.o];exact hZ.o
     ·have F:=h_ (show ¬jr s from fun k=>hf (h3.o k).2.fits);have hJ:¬jK s (am s i)+2≤(tl s (am s i)).size:=by omega
      clear h3 hE hf a1 a2 hd a5 hlt h8;generalize jK s (am s i)=K at*;generalize jV s (am s i)=V at*;generalize tl s (am s i)=T at*;have j1:(T.size:Int) < (K:Int)+2:=by omega
      have j2:(V:Int)≤2147483647:=by omega
      go_wp2_with(first
       |(go_at_call 100;refine(H.o _).mono ?_;rintro e w' ⟨rfl,rfl⟩)
       |(refine wpList_store_rowTo rfl _ _ _ rfl rfl w.heap.size b8 rfl rfl 43 b8 h0.o.res d8 rfl hg.o ?_))
      refine bodyPost_ret (cv rfl _ _ w.heap.size _ b8 (0,0) _ rfl (bh h0.o.res) Tryz.underlying43 rfl d8) rfl ?_;exact oz F.o (below_setRow h0.o.bel ler _)
    ·have F:=h_ (show ¬jr s from fun k=>hV (h3.o k).2.top);clear h3 hE a1 a2 hd a5 hlt h8;generalize jK s (am s i)=K at*;generalize jV s (am s i)=V at*;generalize tl s (am s i)=T at*;have j2:(2147483647:Int) < (V:Int):=by omega
     go_wp2_with(first
      |(go_at_call 100;refine(H.o _).mono ?_;rintro e w' ⟨rfl,rfl⟩)
      |(refine wpList_store_rowTo rfl _ _ _ rfl rfl w.heap.size b8 rfl rfl 43 b8 h0.o.res d8 rfl hg.o ?_))
     refine bodyPost_ret (cv rfl _ _ w.heap.size _ b8 (0,0) _ rfl (bh h0.o.res) Tryz.underlying43 rfl d8) rfl ?_;exact oz F.o (below_setRow h0.o.bel ler _)
   ·have hY:(jE s (am s i)!=0)=true:=bN hE;have F:=h_ (show ¬jr s from fun k=>hE (h3.o k).2.num);clear h3 hE hd hlt h8;generalize c9 (bt (tl s (am s i))) (tl s (am s i)).size=V at*;generalize ck (bt (tl s (am s i))) (tl s (am s i)).size=NN at*;generalize jE s (am s i)=E at*;generalize tl s (am s i)=T at*
    go_wp2_with(first
     |(go_at_call 100;refine(H.o _).mono ?_;rintro e w' ⟨rfl,rfl⟩)
     |(refine wpList_store_rowTo rfl _ _ _ rfl rfl w.heap.size b8 rfl rfl 43 b8 h0.o.res d8 rfl hg.o ?_))
    refine bodyPost_ret (cv rfl _ _ w.heap.size _ b8 (0,0) _ rfl (bh h0.o.res) Tryz.underlying43 rfl d8) rfl ?_;exact oz F.o (below_setRow h0.o.bel ler _)
  ·have he:am s i=s.size:=by omega
   have hT:tl s (am s i)=⟨#[]⟩:=by rw [he];unfold tl;apply ByteArray.ext;rw [ByteArray.data_extract];apply Array.ext';simp
   rw [hT];have hx:=h_ (p0f h0.o.all he);have g9:w.heap.size <wr.heap.size:=by have:=h0.o.sz;omega
   have H:Hid (Calls Tryz.prog 120 #[.agg #[.slice A i c,.slice A' i c']] wr fun e w'=>e= .returned (.int .i64 (bu (jPl s i) (jGs s i)))∧Below wr.heap.size wr w'):=p0n _ _ _ _ _ _ _ _ wr (h0.o.ats.rows su (by omega)) (qb h0.o.gens);have HE:=h_ he;clear hT hd hlt h8;by_cases hE:bu (jPl s i) (jGs s i)=0
   ·have ha:=hx.o.2 hE;have hP:Hid (i=48):=Tx (he.trans ha.end_.symm);have hS:=h_ ha;rw [hE]at H;clear hE ha he
    go_wp2_with(first
     |(go_at_call 120;refine H.o.mono ?_;rintro e w3 ⟨rfl,h5⟩;have h4:=h_ (ah h0.o.m (ag h0.o.m) h5);have h7:=h_ (ah h0.o.res (ag h0.o.res) h5);have k0:=rc0 h4.o;have k1:=rc1 h4.o;have h6:=h_ h5;clear h5)
     |(refine wpList_store_rowTo rfl _ _ _ rfl rfl w.heap.size #[.slice A i c,.slice A' i c'] rfl rfl 43 b8 h7.o d8 rfl (g8.o A A' i c i c') ?_))
    refine bodyPost_ret (cv rfl _ _ w.heap.size _ #[.slice A i c,.slice A' i c'] (0,0) _ rfl (bh h7.o) Tryz.underlying43 rfl d8) rfl ?_;have o1:=(h0.o.ats.fresh_below h6.o).setRow (b:=w.heap.size) (by omega) #[.slice A i c,.slice A' i c'];have o2:=(h0.o.gens.fresh_below h6.o).setRow (b:=w.heap.size) (by omega) #[.slice A i c,.slice A' i c'];have G:=h6.o;have P:=h0.o.bel;have hy:=hP.o;clear h0 h6 h4 h7 k0 k1 H hx m0 m1 hP;subst hy;exact p0j hS.o (o1.rows su (by omega)) (qb o2) (below_setRow (P.trans (G.mono P.size)) ler _)
   ·have F:Hid (¬jr s):=fun k=>hE (hx.o.1 k)
    have hY:(bu (jPl s i) (jGs s i)!=0)=true:=bN hE;generalize bu (jPl s i) (jGs s i)=ee at*;clear hE he
    go_wp2_with(first
     |(go_at_call 120;refine H.o.mono ?_;rintro e w3 ⟨rfl,h5⟩;have h7:=h_ (ah h0.o.res (ag h0.o.res) h5);have h6:=h_ h5;clear h5)
     |(refine wpList_store_rowTo rfl _ _ _ rfl rfl w.heap.size b8 rfl rfl 43 b8 h7.o d8 rfl hg.o ?_))
    refine bodyPost_ret (cv rfl _ _ w.heap.size _ b8 (0,0) _ rfl (bh h7.o) Tryz.underlying43 rfl d8) rfl ?_;exact oz F.o (below_setRow (h0.o.bel.trans (h6.o.mono h0.o.bel.size)) ler _)
end Go.Proofs.YtcldpfhpkbeaiadGreat
