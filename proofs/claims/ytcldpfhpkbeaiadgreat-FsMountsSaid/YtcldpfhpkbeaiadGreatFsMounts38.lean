/- A part of the proof of FsMounts. No condition of ours. -/
import Derived.Test.YtcldpfhpkbeaiadGreatFsMounts27
import Derived.Test.YtcldpfhpkbeaiadGreatFsMounts34
set_option maxRecDepth 100000
set_option maxHeartbeats 4000000
namespace Go.Proofs.YtcldpfhpkbeaiadGreat
open Go.RowKit
theorem Rg{W:World}{base size n c b o j:Nat}{xs:List Value}{u:Value}(h:af W base size (.slice (some ⟨b,o,none⟩) n c) n xs)(hu:xs[j]?=some u):W.cell? ⟨b,o+j,none⟩=some u∧W.frozen? ⟨b,o+j,none⟩=false:=by obtain⟨_,_,_,e1,_,_,c1,f1⟩:=h.at_ hu;injection e1 with e1 _ _;injection e1 with e1;injection e1 with e1 e2 _;subst e1;subst e2;exact⟨c1,f1⟩
theorem m0e(N:Nat)(hN:N≤128):∀W:World,(Instr.makeSlice 41 (.int .i64 (N:Int)) (.int .i64 (N:Int))).run Tryz.prog W= .ok (.slice (some ⟨W.heap.size,0,none⟩) N N) (W.alloc (.cells (Array.replicate N (.int .i64 0)) 3)):=fun W=>by
 obtain⟨i,hi,h0⟩:=Option.map_eq_some_iff.1 ta;simp only [Prod.mk.injEq]at h0;obtain⟨hz,hs,h1⟩:=h0;have:=run_make (P:=Tryz.prog) W 41 3 i (.int .i64 0) Tryz.underlying41 hi hz .i64 .i64 N N (by omega) (by omega) (by rw [h1];omega) (by omega);rw [hs]at this;rw [this,Int.toNat_natCast]
 have e:madeCells (Value.int .i64 0).cells (N*1)=Array.replicate N (.int .i64 0):=by apply Array.ext';rw [Nat.mul_one,Array.toList_replicate];exact toList_madeCells_one _ _
 rw [e]
theorem j0h{W:World}{N B:Nat}(hN:N≤128)(hB:B≤W.heap.size)(t:TypeId):af (W.alloc (.cells (Array.replicate N (.int .i64 0)) t)) B 1 (.slice (some ⟨W.heap.size,0,none⟩) N N) N ((List.replicate N (0:Int)).map (Value.int .i64)):=by
 have hr:=A_ W (.cells (Array.replicate N (.int .i64 0)) t);refine⟨by simp,.inr ⟨W.heap.size,0,N,rfl,hB,by simp,Nat.le_refl _,by unfold maxLen;omega,fun j u hu=>?_,fun j hj=>⟨?_,?_⟩⟩⟩
 ·rw [Nat.zero_add,aj hr];rw [List.map_replicate]at hu;have hj:j <N:=by have:=(gS.1 hu).1;simpa using this
  rw [List.getElem?_replicate,if_pos hj]at hu;rw [Array.getElem?_replicate,if_pos hj];exact hu
 ·rw [Nat.zero_add,aj hr,Array.getElem?_replicate,if_pos (by omega)];rfl
 ·rw [Nat.zero_add];exact ak hr j
def Lp(cs:List ByteArray)(ws:List ae)(xs:List aa)(gs:List Int)(w:World)(e:Ending)(w':World):Prop:=∃D q d,e= .returned (.tuple #[.slice D q d,.int .i64 (ucE cs ws xs gs)])∧ab w' w'.heap.size D q d (fun z=>[.int .i64 z]) 1 (ucL cs ws xs gs)∧Below w.heap.size w w'∧(∀a,D=some a→w.heap.size≤a.block)
theorem Bf{cs:List ByteArray}{ws:List ae}{xs:List aa}{gs:List Int}{w w':World}{k:Int}(h:ucE cs ws xs gs=k)(h0:k≠0)(hb:Below w.heap.size w w'):Lp cs ws xs gs w (.returned (.tuple #[.slice none 0 0,.int .i64 k])) w':=
 ⟨none,0,0,by rw [h],by rw [a0r h h0];exact vj _ _,hb,fun a ha=>by cases ha⟩
structure UcI(cs:List ByteArray)(ws:List ae)(xs:List aa)(gs:List Int)(b:Nat)(wa:World)(i:Nat)(wr:World):Prop where
 good:ix cs ws xs gs i
 own:af wr wa.heap.size 1 (.slice (some ⟨b,0,none⟩) cs.length cs.length) cs.length ((cnt cs ws (alL cs ws xs i)).map (Value.int .i64))
 below:Below wa.heap.size wa wr
structure UcJ(cs:List ByteArray)(ws:List ae)(xs:List aa)(b:Nat)(wa:World)(i j:Nat)(p:aa)(D:Option Addr)(q d:Nat)(wr:World):Prop where
 ok:ov cs ws i (pts cs ws p) j
 own:af wr wa.heap.size 1 (.slice (some ⟨b,0,none⟩) cs.length cs.length) cs.length ((cnt cs ws (alL cs ws xs i++(p::ptL (pts cs ws p) j))).map (Value.int .i64))
 rows:ab wr wr.heap.size D q d aa.cells 2 (pts cs ws p)
 below:Below wa.heap.size wa wr
 far:∀b' o,D=some ⟨b',o,none⟩→0 <q→b'≠b
theorem Wu{cs:List ByteArray}{ws:List ae}{l:List aa}{pk:Nat}(hd:au cs ws=0)(hpk:pk <cs.length)(hl:l.length≤900):∃v:Int,(cnt cs ws l)[pk]?=some v∧0≤v∧v≤921600:=by have e:=gE (l:=cnt cs ws l) (i:=pk) (by rw [Wt];exact hpk);obtain⟨h0,h1⟩:=u0d (fun p=>sg hd _ _) l pk _ e;exact⟨_,e,h0,by omega⟩
theorem Wv{cs:List ByteArray}{ws:List ae}{l:List aa}{pk:Nat}{pn v:Int}(h:(cnt cs ws l)[pk]?=some v):(cnt cs ws (l++[⟨(pk:Int),pn⟩])).map (Value.int .i64)=((cnt cs ws l).map (Value.int .i64)).set pk (.int .i64 (v+((ubB cs ws pk pn).Text.size:Int))):=by rw [u0a];simp only [Int.toNat_natCast];rw [gD,h,List.map_set];rfl
theorem a0j(A:Option Addr)(n c:Nat)(cs:List ByteArray)(A':Option Addr)(n' c':Nat)(ws:List ae)(Am:Option Addr)(nm cm:Nat)(xs:List aa)(Ag:Option Addr)(ng cg:Nat)(gs:List Int)(w:World)(r:ab w w.heap.size A n c (fun z=>[.string z]) 1 cs)(r':ab w w.heap.size A' n' c' ae.cells 2 ws)(rm:ab w w.heap.size Am nm cm aa.cells 2 xs)(rg:ab w w.heap.size Ag ng cg (fun z=>[.int .i64 z]) 1 gs):Calls Tryz.prog 62 #[.agg #[.slice A n c,.slice A' n' c'],.agg #[.slice Am nm cm,.slice Ag ng cg]] w (Lp cs ws xs gs w):=by
 have gS:=r.len;subst gS;have gK:=r'.len;subst gK;have gJ:=rm.len;subst gJ;have x1:=rg.len;subst x1;obtain⟨wa,hm⟩:∃wa,wa=(w.alloc (.cells #[.slice A cs.length c,.slice A' ws.length c'] 25)).alloc (.cells #[.slice Am xs.length cm,.slice Ag gs.length cg] 43):=⟨_,rfl⟩;have gM:wa.heap.size=w.heap.size+2:=by rw [hm];simp
 have hc:Below w.heap.size w wa:=by rw [hm];exact(br.alloc ler _).alloc (by simp) _
 have hH:wa.heap[w.heap.size+1]?=some (.cells #[.slice Am xs.length cm,.slice Ag gs.length cg] 43 (0,0)):=by rw [hm];have:=A_ (w.alloc (.cells #[.slice A cs.length c,.slice A' ws.length c'] 25)) (.cells #[.slice Am xs.length cm,.slice Ag gs.length cg] 43);rw [show(w.alloc (.cells #[.slice A cs.length c,.slice A' ws.length c'] 25)).heap.size=w.heap.size+1 by simp]at this;exact this
 have hM:wa.heap[w.heap.size]?=some (.cells #[.slice A cs.length c,.slice A' ws.length c'] 25 (0,0)):=by rw [hm];exact(heap_alloc_old _ _ (by simp)).trans (A_ w _)
 have hq:=hc.size;have RA:=h_ ((r.below hc).more hq);have hR:=h_ ((r'.below hc).more hq);have RM:=h_ ((rm.below hc).more hq);have RG:=h_ ((rg.below hc).more hq)
 have HC:Hid (∀W,Below wa.heap.size wa W→W.cell? ⟨w.heap.size,0,none⟩=some (.slice A cs.length c)∧W.cell? ⟨w.heap.size,1,none⟩=some (.slice A' ws.length c')∧W.cell? ⟨w.heap.size+1,0,none⟩=some (.slice Am xs.length cm)∧W.cell? ⟨w.heap.size+1,1,none⟩=some (.slice Ag gs.length cg)∧w.heap.size <W.heap.size∧w.heap.size+1 <W.heap.size):=fun W h=>by have q0:=ah hM (ag hM) h;have q1:=ah hH (ag hH) h;exact⟨aj q0 0,aj q0 1,aj q1 0,aj q1 1,ag q0,ag q1⟩
 have hu:=h_ (xe A _ c cs A' _ c' ws wa RA.o hR.o);have hz:Hid (∀W,Below wa.heap.size wa W→Calls Tryz.prog 52 #[.agg #[.slice Am xs.length cm,.slice Ag gs.length cg]] W fun e w'=>e= .returned (.int .i64 (bu xs gs))∧Below W.heap.size W w'):=fun W h=>zu Am _ cm xs Ag _ cg gs W ((RM.o.below h).more h.size) ((RG.o.below h).more h.size)
 have hI:=h_ hm;have h5:=h_ hc;clear r r' rm rg hm hc hM hH hq gM;by_cases hd:au cs ws=0
 ·have HD:=h_ hd;rw [hd]at hu;by_cases hi:bu xs gs=0
  ·have hG:=h_ hi;rw [hi]at hz;obtain⟨z1,z2,_,_,z3⟩:=jz hd
   have h4:jw xs gs:=by
    by_cases hk:jw xs gs
    ·exact hk
    ·rw [mm hk]at hi;cases hi
   have HX:=h_ h4;have xD:xs.length≤48:=by rw [h4.1];omega
   have xA:48≤xs.length:=by rw [h4.1];omega
   have Z2:=h_ z2;have Z3:=h_ z3;have gX:=m0e cs.length z2;clear hd hi z1 z2 z3 h4;go_enter Tryz.func62,Tryz.ntmps62
   go_wp2_with(first
    |(go_at_call 9;rw [←hI.o];refine hu.o.mono ?_;rintro e w1 ⟨rfl,h6⟩;obtain⟨v0,v1,v2,v3,v4,v5⟩:=HC.o w1 h6;have h8:=h_ h6;clear h6)
    |(go_at_call 52;refine(hz.o _ h8.o).mono ?_;rintro e w2 ⟨rfl,hp⟩;have hg:=h_ (h8.o.trans (hp.mono h8.o.size));obtain⟨u0,u1,u2,u3,u4,u5⟩:=HC.o w2 hg.o;clear hp))
   have I0:Hid (UcI cs ws xs gs w2.heap.size wa 0 (w2.alloc (.cells (Array.replicate cs.length (.int .i64 0)) 3))):=
    {good:=Yx,own:=j0h Z2.o hg.o.size _,below:=hg.o.alloc hg.o.size _}
   have hL:Hid (wa.heap.size≤w2.heap.size):=hg.o.size;clear v0 v1 v2 v3 v4 v5 u0 u1 u2 u3 u4 u5 gX hu hz;go_loopw [35] (fun v35 wr=>∃i:Nat,i≤xs.length∧v35= .int .i64 i∧Hid (UcI cs ws xs gs w2.heap.size wa i wr)) (fun v35 _=>xs.length- (intOf v35).toNat)
   case atStart=>exact⟨0,zl,rfl,I0.o⟩
   case round=>
    obtain⟨i,hi,rfl,hP⟩:=hrel;obtain⟨w4,rfl⟩:∃z:World,z=wr:=⟨_,rfl⟩;clear I0;by_cases hlt:i <xs.length
    ·have e1:=gE hlt;have hW:i <gs.length:=by have h1:=HX.o.1;have h2:=HX.o.2.1;omega
     have e2:=gE hW;generalize hpx:xs[i]=p at e1;generalize hgx:gs[i]=g at e2;obtain⟨pc,pn⟩:=p;have E1:=h_ e1;have E2:=h_ e2
     have xE:Hid (dk pc pn=true):=by obtain⟨p',g',h1,_,h3,_⟩:=HX.o.2.2 i (by have:=HX.o.1;omega);rw [e1]at h1;injection h1 with h1;subst h1;exact h3
     obtain⟨bm,om,gB,x4,hN⟩:=(RM.o.below hP.o.below).at_ i _ e1;have c0:w4.cell? ⟨bm,om+i*2,none⟩=some (.int .i64 pc):=by simpa using hN 0 _ rfl
     have c1:w4.cell? ⟨bm,om+i*2+1,none⟩=some (.int .i64 pn):=hN 1 _ rfl;have i1:(i:Int) < (xs.length:Int):=by omega
     subst gB;have ga:=h_ (Yw (cs:=cs) (ws:=ws) (xs:=xs) i);have xF:i≤47:=by omega
     obtain⟨wo,hr⟩:∃z:World,z=w4.alloc (.cells #[.int .i64 pc,.int .i64 pn] 89):=⟨_,rfl⟩;have hC:=A_ w4 (.cells #[.int .i64 pc,.int .i64 pn] 89);rw [←hr]at hC;have g4:Below w4.heap.size w4 wo:=by rw [hr];exact br.alloc ler _
     have gW:=h_ hr;have g9:=h_ hC;have h0:=h_ (hP.o.below.trans (g4.mono hP.o.below.size));have hA:=h_ (show af wo wa.heap.size 1 (.slice (some ⟨w2.heap.size,0,none⟩) cs.length cs.length) cs.length ((cnt cs ws (alL cs ws xs i)).map (Value.int .i64)) by rw [hr];exact hP.o.own.alloc _);have o0:=rc0 hC;clear e1 e2 hpx hgx hN hr hC g4 hi hlt hW;go_upto_region 11 with fail;rw [←gW.o];obtain⟨v0,v1,v2,v3,v4,v5⟩:=HC.o wo h0.o;by_cases hp0:pc=0
     ·subst hp0;have I1:Hid (UcI cs ws xs gs w2.heap.size wa (i+1) wo):= {good:=Ep hP.o.good E1.o E2.o (.inl rfl),own:=by rw [An E1.o,Jc rfl,List.append_nil];exact hA.o,below:=h0.o};go_wp2_with fail;go_roundw
      case rel=>exact⟨i+1,by omega,by go_num,I1.o⟩
      case measure=>(simp [intOf];try omega)
     ·have g0:(pc==0)=false:=bF hp0;have hY:=h_ hp0;have hy:=h_ (a0h A _ c cs A' _ c' ws (some ⟨bm,om,none⟩) _ cm xs Ag _ cg gs i pc pn g wo ((RA.o.below h0.o).more h0.o.size) ((hR.o.below h0.o).more h0.o.size) ((RM.o.below h0.o).more h0.o.size) ((RG.o.below h0.o).more h0.o.size) HD.o E1.o E2.o);by_cases h4:fw cs ws i ⟨pc,pn⟩ g
      ·have gP:=h_ h4;obtain⟨q2,qN,qn⟩:=Bh h4.1;simp only at q2 qN qn;obtain⟨pk,rfl⟩:∃pk:Nat,pc=pk:=⟨pc.toNat,by omega⟩;obtain⟨v,hv,gC,gI⟩:=Wu (l:=alL cs ws xs i) HD.o (show pk <cs.length by omega) (by have:=ga.o;omega);have HV:=h_ hv;obtain⟨k0,k1⟩:=Rg hA.o (j:=pk) (u:=.int .i64 v) (by rw [List.getElem?_map,hv];rfl);rw [Nat.zero_add]at k0 k1;have gF:((ubB cs ws pk pn).Text.size:Int)≤1024:=by have:=sg HD.o pk pn;omega
       have gQ:0≤((ubB cs ws pk pn).Text.size:Int):=by omega
       have gL:=h_ (Wv (pn:=pn) hv);have gg:Hid ((pts cs ws ⟨pk,pn⟩).length≤8):=J9 _
       have g3:Hid (Calls Tryz.prog 55 #[.agg #[.slice A cs.length c,.slice A' ws.length c'],.agg #[.slice (some ⟨bm,om,none⟩) xs.length cm,.slice Ag gs.length cg],.int .i64 i] wo fun e w'=>∃(K G S:Int) (D:Option Addr) (q d:Nat),e= .returned (.tuple #[.agg #[.int .i64 K,.int .i64 G,.int .i64 S,.slice D q d],.string (ubB cs ws pk pn).Text,.int .i64 0])∧ab w' w'.heap.size D q d aa.cells 2 (pts cs ws ⟨pk,pn⟩)∧Below wo.heap.size wo w'∧(∀a,D=some a→wo.heap.size≤a.block)):=hy.o.mono fun e w' h=>by
        rcases h with⟨_,h⟩|⟨h,_⟩
        ·exact h
        ·exact absurd h4 h
       have hU:w2.heap.size <wo.heap.size:=(hA.o.lt _ rfl).2;have HB2O:=h_ hU;have i3:(pk:Int) < (cs.length:Int):=by omega
       clear h4 q2 qN qn hv hy hp0 hU;generalize hT:(ubB cs ws pk pn).Text=T at*;have HT:=h_ hT;clear hT;go_wp2_with(go_at_call 55;refine g3.o.mono ?_;rintro e w5 ⟨K,G,S,D,q,d,rfl,r5,h9,g6⟩;have hf:=ah g9.o (ag g9.o) h9;have s0:=rc0 hf;have s9:=ag hf;have g7:=(h9.cell (p:=⟨w2.heap.size,pk,none⟩) HB2O.o).trans k0;have g2:=(h9.frozen (p:=⟨w2.heap.size,pk,none⟩) HB2O.o).trans k1;have gT:=Nat.lt_of_lt_of_le HB2O.o h9.size;have R5:=h_ r5;have hw:=h_ h9;have gD:=h_ g6;have xb:=h_ hf;clear h9 r5 g6 hf);have hZ:Hid (∀b' o,D=some ⟨b',o,none⟩→0 <q→b'≠w2.heap.size):=fun b' o e _ e2=>by have h1:=gD.o _ e;have h2:=HB2O.o;simp only at h1;omega
       have hS:=h_ (h0.o.trans (hw.o.mono h0.o.size))
       have J0:Hid (UcJ cs ws xs w2.heap.size wa i 0 ⟨pk,pn⟩ D q d ((w5.setCell ⟨w2.heap.size,pk,none⟩ (.int .i64 (v+(T.size:Int)))).alloc (.cells #[.int .i64 K,.int .i64 G,.int .i64 S,.slice D q d] 67))):=
        {ok:=fun j' q' h=>by omega
         own:=by
          have e:(⟨(pk:Int),pn⟩:aa)::ptL (pts cs ws ⟨pk,pn⟩) 0=[⟨(pk:Int),pn⟩]:=by simp [ptL]
          rw [e,gL.o];have:=(hA.o.fresh_below hw.o).set pk (.int .i64 (v+(T.size:Int)));rw [Nat.zero_add]at this;exact this.alloc _
         rows:=iv ((dj R5.o hZ.o (.int .i64 (v+(T.size:Int)))).more (by simp [World.setCell])) _
         below:=(hS.o.setCell hL.o _).alloc (by have:=hS.o.size;simp [World.setCell];omega) _
         far:=hZ.o}
       clear k0 k1 g7 g2 gT s0 s9 g3 gC gI gF gQ v0 v1 v2 v3 v4 v5 o0 c0 c1;have HQ:=R5.o.len;subst HQ;go_loopw [66] (fun v66 wr=>∃j:Nat,j≤(pts cs ws ⟨pk,pn⟩).length∧v66= .int .i64 j∧Hid (UcJ cs ws xs w2.heap.size wa i j ⟨pk,pn⟩ D (pts cs ws ⟨pk,pn⟩).length d wr)) (fun v66 _=>(pts cs ws ⟨pk,pn⟩).length- (intOf v66).toNat)
       case atStart=>exact⟨0,zl,rfl,J0.o⟩
       case round=>
        obtain⟨j,hj,rfl,hJ⟩:=hrel;obtain⟨w7,rfl⟩:∃z:World,z=wr:=⟨_,rfl⟩;clear J0;by_cases hjl:j < (pts cs ws ⟨pk,pn⟩).length
        ·have e3:=gE hjl;generalize hqx:(pts cs ws ⟨pk,pn⟩)[j]=qp at e3;obtain⟨qc,qn⟩:=qp;have E3:=h_ e3;obtain⟨bd,od,hD,x3,hK⟩:=hJ.o.rows.at_ j _ e3;have c0:w7.cell? ⟨bd,od+j*2,none⟩=some (.int .i64 qc):=by simpa using hK 0 _ rfl
         have c1:w7.cell? ⟨bd,od+j*2+1,none⟩=some (.int .i64 qn):=hK 1 _ rfl;have i5:(j:Int) < ((pts cs ws ⟨pk,pn⟩).length:Int):=by omega
         subst hD;obtain⟨wp,hx⟩:∃z:World,z=w7.alloc (.cells #[.int .i64 qc,.int .i64 qn] 89):=⟨_,rfl⟩;have hn:=A_ w7 (.cells #[.int .i64 qc,.int .i64 qn] 89);rw [←hx]at hn;have ht:Below w7.heap.size w7 wp:=by rw [hx];exact br.alloc ler _
         have gw:=h_ hx;have hV:=h_ hn;have h7:=h_ (hJ.o.below.trans (ht.mono hJ.o.below.size));have hB:=h_ (hJ.o.own.fresh_below ht);have g8:=h_ ((hJ.o.rows.below ht).more ht.size);have o0:=rc0 hn;have o1:=rc1 hn;clear e3 hqx hK hx hn ht hj;have xB:j <8:=by have:=gg.o;omega
         go_upto_region 19 with fail;rw [←gw.o];obtain⟨v0,v1,v2,v3,v4,v5⟩:=HC.o wp h7.o;by_cases hq0:qc=0
         ·subst hq0;have J1:Hid (UcJ cs ws xs w2.heap.size wa i (j+1) ⟨pk,pn⟩ (some ⟨bd,od,none⟩) (pts cs ws ⟨pk,pn⟩).length d wp):= {ok:=Cd hJ.o.ok E3.o (.inl rfl),own:=by rw [Qt E3.o rfl];exact hB.o,rows:=g8.o,below:=h7.o,far:=hJ.o.far};go_wp2_with fail;go_roundw
          case rel=>exact⟨j+1,by omega,by go_num,J1.o⟩
          case measure=>(simp [intOf];try omega)
         ·have g5:(qc==0)=false:=bF hq0;have hE:=h_ (My A _ c cs A' _ c' ws i j qc qn wp ((RA.o.below h7.o).more h7.o.size) ((hR.o.below h7.o).more h7.o.size) Z3.o);by_cases hpo:km cs ws i j ⟨qc,qn⟩
          ·have gU:=h_ hpo;obtain⟨q2,qN,hX⟩:=Bh hpo.1;simp only at q2 qN hX;obtain⟨qk,rfl⟩:∃qk:Nat,qc=qk:=⟨qc.toNat,by omega⟩;obtain⟨v',hQ,x5,x7⟩:=Wu (l:=alL cs ws xs i++(⟨(pk:Int),pn⟩::ptL (pts cs ws ⟨pk,pn⟩) j)) HD.o (show qk <cs.length by omega) (by have h1:=ga.o;have h2:=Gw (pts cs ws ⟨pk,pn⟩) j;simp only [List.length_append,List.length_cons];omega);obtain⟨l0,l1⟩:=Rg hB.o (j:=qk) (u:=.int .i64 v') (by rw [List.getElem?_map,hQ];rfl);rw [Nat.zero_add]at l0 l1;have x2:((ubB cs ws qk qn).Text.size:Int)≤1024:=by have:=sg HD.o qk qn;omega
           have xC:0≤((ubB cs ws qk qn).Text.size:Int):=by omega
           have gH:=h_ (Wv (pn:=qn) hQ)
           have gG:Hid (Calls Tryz.prog 44 #[.agg #[.slice A cs.length c,.slice A' ws.length c'],.int .i64 i,.int .i64 j,.agg #[.int .i64 qk,.int .i64 qn]] wp fun e w'=>e= .returned (.tuple #[.string (ubB cs ws qk qn).Text,.int .i64 0])∧Below wp.heap.size wp w'):=hE.o.mono fun e w' h=>by
            rcases h with⟨_,h⟩|⟨h,_⟩
            ·exact h
            ·exact absurd hpo h
           have HB2P:=h_ (show w2.heap.size <wp.heap.size from(hB.o.lt _ rfl).2);have i7:(qk:Int) < (cs.length:Int):=by omega
           have x0:=h_ (show(alL cs ws xs i++(⟨(pk:Int),pn⟩::ptL (pts cs ws ⟨pk,pn⟩) j))++[(⟨(qk:Int),qn⟩:aa)]=alL cs ws xs i++(⟨(pk:Int),pn⟩::ptL (pts cs ws ⟨pk,pn⟩) (j+1)) by rw [Qu E3.o hq0];simp);clear hpo q2 qN hX hQ hE hq0;generalize hT':(ubB cs ws qk qn).Text=T' at*;have x6:=h_ hT';clear hT';go_wp2_with(go_at_call 44;refine gG.o.mono ?_;rintro e w8 ⟨rfl,he⟩;have hf:=ah hV.o (ag hV.o) he;have s0:=rc0 hf;have g7:=(he.cell (p:=⟨w2.heap.size,qk,none⟩) HB2P.o).trans l0;have g2:=(he.frozen (p:=⟨w2.heap.size,qk,none⟩) HB2P.o).trans l1;have hh:=h_ he;clear he hf)
           have J1:Hid (UcJ cs ws xs w2.heap.size wa i (j+1) ⟨pk,pn⟩ (some ⟨bd,od,none⟩) (pts cs ws ⟨pk,pn⟩).length d (w8.setCell ⟨w2.heap.size,qk,none⟩ (.int .i64 (v'+(T'.size:Int))))):=
            {ok:=Cd hJ.o.ok E3.o (.inr gU.o)
             own:=by rw [←x0.o,gH.o];have:=(hB.o.fresh_below hh.o).set qk (.int .i64 (v'+(T'.size:Int)));rw [Nat.zero_add]at this;exact this
             rows:=(dj ((g8.o.below hh.o).more hh.o.size) hJ.o.far (.int .i64 (v'+(T'.size:Int)))).more (by simp [World.setCell])
             below:=(h7.o.trans (hh.o.mono h7.o.size)).setCell hL.o _
             far:=hJ.o.far}
           go_roundw
           case rel=>exact⟨j+1,by omega,by go_num,J1.o⟩
           case measure=>(simp [intOf];try omega)
          ·have hs:=Er (m:=48) (cs:=cs) (ws:=ws) (show i <48 by omega) E1.o E2.o (fun h=>by rcases h with h|h;exact hY.o h;exact Ry E3.o hq0 hpo h.2);have F:=h_ (Nd HD.o hG.o hs)
           have gb:Hid (Calls Tryz.prog 44 #[.agg #[.slice A cs.length c,.slice A' ws.length c'],.int .i64 i,.int .i64 j,.agg #[.int .i64 qc,.int .i64 qn]] wp fun e w'=>e= .returned (.tuple #[.string ⟨#[]⟩,.int .i64 18])∧Below wp.heap.size wp w'):=hE.o.mono fun e w' h=>by
            rcases h with⟨h,_⟩|⟨_,h⟩
            ·exact absurd h hpo
            ·exact h
           clear hpo hs hE hq0;go_wp2_with(go_at_call 44;refine gb.o.mono ?_;rintro e w8 ⟨rfl,he⟩;have hh:=h_ (h7.o.trans (he.mono h7.o.size)));go_ret2;exact Bf F.o (by decide) (h5.o.trans (hh.o.mono h5.o.size))
        ·obtain rfl:j=(pts cs ws ⟨pk,pn⟩).length:=by omega
         have i5:¬((pts cs ws ⟨pk,pn⟩).length:Int) < ((pts cs ws ⟨pk,pn⟩).length:Int):=by omega
         have I1:Hid (UcI cs ws xs gs w2.heap.size wa (i+1) w7):= {good:=Ep hP.o.good E1.o E2.o (.inr ⟨gP.o,hJ.o.ok⟩),own:=by rw [An E1.o,Ua hY.o];exact hJ.o.own,below:=hJ.o.below};go_wp2_with fail;go_roundw
         case rel=>exact⟨i+1,by omega,by go_num,I1.o⟩
         case measure=>(simp [intOf];try omega)
      ·have hs:=Er (m:=48) (cs:=cs) (ws:=ws) (show i <48 by omega) E1.o E2.o (fun h=>by rcases h with h|h;exact hp0 h;exact h4 h.1);have F:=h_ (Nd HD.o hG.o hs)
       have gN:Hid (Calls Tryz.prog 55 #[.agg #[.slice A cs.length c,.slice A' ws.length c'],.agg #[.slice (some ⟨bm,om,none⟩) xs.length cm,.slice Ag gs.length cg],.int .i64 i] wo fun e w'=>e= .returned (.tuple #[.agg bf,.string ⟨#[]⟩,.int .i64 18])∧Below wo.heap.size wo w'):=hy.o.mono fun e w' h=>by
        rcases h with⟨h,_⟩|⟨_,h⟩
        ·exact absurd h h4
        ·exact h
       clear h4 hs hy hp0;go_wp2_with(go_at_call 55;refine gN.o.mono ?_;rintro e w5 ⟨rfl,h9⟩;have hw:=h_ (h0.o.trans (h9.mono h0.o.size)));go_ret2;exact Bf F.o (by decide) (h5.o.trans ((hw.o.alloc hw.o.size _).mono h5.o.size))
    ·obtain rfl:i=xs.length:=by omega
     have i1:¬(xs.length:Int) < (xs.length:Int):=by omega
     have hF:=Nc HD.o hG.o (by have:=hP.o.good;rw [HX.o.1]at this;exact this);have F:=h_ hF;clear hF;go_wp2_with fail;go_ret2;refine⟨_,_,_,by rw [F.o.1]<;>rfl,?_,h5.o.trans (hP.o.below.mono h5.o.size),(fun a ha=>by injection ha with ha;rw [←ha];exact Nat.le_trans h5.o.size hL.o)⟩;rw [F.o.2,←HX.o.1];exact qb hP.o.own
  ·have F:=h_ (a0q hd hi);have gZ:=h_ hi;have g1:(bu xs gs !=0)=true:=bN hi;generalize bu xs gs=ie at*;clear hd hi;go_enter Tryz.func62,Tryz.ntmps62
   go_wp2_with(first
    |(go_at_call 9;rw [←hI.o];refine hu.o.mono ?_;rintro e w1 ⟨rfl,h6⟩;obtain⟨v0,v1,v2,v3,v4,v5⟩:=HC.o w1 h6;have h8:=h_ h6;clear h6)
    |(go_at_call 52;refine(hz.o _ h8.o).mono ?_;rintro e w2 ⟨rfl,hp⟩;have hg:=h_ (h8.o.trans (hp.mono h8.o.size));clear hp))
   go_ret2;exact Bf F.o gZ.o (h5.o.trans (hg.o.mono h5.o.size))
 ·have F:=h_ (Nf (xs:=xs) (gs:=gs) hd);have gY:=h_ hd;have g1:(au cs ws !=0)=true:=bN hd;generalize au cs ws=de at*;clear hd;go_enter Tryz.func62,Tryz.ntmps62;go_wp2_with(go_at_call 9;rw [←hI.o];refine hu.o.mono ?_;rintro e w1 ⟨rfl,h6⟩;have h8:=h_ h6;clear h6);go_ret2;exact Bf F.o gY.o (h5.o.trans (h8.o.mono h5.o.size))
structure SwI(b:Nat)(cs:List ByteArray)(ws:List ae)(xs:List aa)(gs:List Int)(os:List OpD)(D:Option Addr)(q d lo:Nat)(L:List Int)(w:World)(v:FsV)(fr:List Int)(wr:World):Prop where
 fs:FsT b cs ws xs gs fr os v wr
 below:Below b w wr
 rows:ab wr lo D q d (fun z=>[.int .i64 z]) 1 L
 new:∀g,(Value.slice v.fA v.fn v.fc).ownBlock=some g→lo≤g
 size:lo≤wr.heap.size
 far:da D q b
section
variable {b:Nat} {cs:List ByteArray} {ws:List ae} {xs:List aa} {gs:List Int} {os:List OpD} {D:Option Addr} {q d lo:Nat} {L:List Int} {w:World} {v:FsV} {fr:List Int} {wr w3:World}
theorem SwI.add(h:SwI b cs ws xs gs os D q d lo L w v fr wr){x:Int}{A':Option Addr}{c':Nat}(hl:ed wr w3 (b+1) (Value.slice v.fA v.fn v.fc).ownBlock)(ho:af w3 (b+1) 1 (.slice A' (v.fn+1) c') (v.fn+1) (fr.map (Value.int .i64)++[.int .i64 x]))(hn:Value.ownBlock (.slice A' (v.fn+1) c')=(Value.slice v.fA v.fn v.fc).ownBlock∨∀k,Value.ownBlock (.slice A' (v.fn+1) c')=some k→wr.heap.size≤k):SwI b cs ws xs gs os D q d lo L w {v with fA:=A',fn:=v.fn+1,fc:=c'} (fr++[x]) (w3.setCell ⟨b,6,none⟩ (.slice A' (v.fn+1) c')):=by
 have hz:=hl.size;refine {fs:=h.fs.freeAdd hl ho hn,below:=?_,rows:=?_,new:=?_,size:=?_,far:=h.far}
 ·exact(hl.below (Nat.le_succ b) h.below).setCell (p:=⟨b,6,none⟩) ler _
 ·refine(h.rows.far_keep (w':=w3) fun g ⟨o,e,h0⟩ hg=>hl.grown.block g (Nat.lt_of_lt_of_le hg h.size) (fun e2=>?_)).far_set h.far 6 _;have:=h.new g e2.symm;omega
 ·intro g hg;rcases hn with e|e
  ·exact h.new g (e▸hg)
  ·exact Nat.le_trans h.size (e g hg)
 ·have:=h.size;simp [World.setCell];omega
end
theorem a0p{cs:List ByteArray}{ws:List ae}{xs:List aa}{gs:List Int}{w:World}{f:FuncId}{args:Array Value}(h:Calls Tryz.prog f args w (Lp cs ws xs gs w)):Calls Tryz.prog f args w fun e w'=>∃z:Option Addr×Nat×Nat,e= .returned (.tuple #[.slice z.1 z.2.1 z.2.2,.int .i64 (ucE cs ws xs gs)])∧(ab w' w'.heap.size z.1 z.2.1 z.2.2 (fun z=>[.int .i64 z]) 1 (ucL cs ws xs gs)∧Below w.heap.size w w'∧(∀a,z.1=some a→w.heap.size≤a.block)):=
 h.mono fun _ _ ⟨D,q,d,h1,h2⟩=>⟨(D,q,d),h1,h2⟩
def Z0(b:Nat)(cs:List ByteArray)(ws:List ae)(xs:List aa)(gs:List Int)(os:List OpD)(w:World)(e:Ending)(w':World):Prop:=e= .returned (.int .i64 (ucE cs ws xs gs))∧∃v fr,FsT b cs ws xs gs fr os v w'∧Below b w w'
theorem b0t(b:Nat)(cs:List ByteArray)(ws:List ae)(xs:List aa)(gs fr:List Int)(os:List OpD)(v:FsV)(w:World)(h:FsT b cs ws xs gs fr os v w):Calls Tryz.prog 33 #[.pointer (some ⟨b,0,none⟩)] w (Z0 b cs ws xs gs os w):=by
 have hj:=h_ (a0p (a0j v.cA v.cn v.cc cs v.wA v.wn v.wc ws v.aA v.an v.ac xs v.gA v.gn v.gc gs w.drew h.drew.rc h.drew.rw' h.drew.ra h.drew.rg));have c0:=rc0 h.box;have c1:=rc1 h.box;have c2:=rc2 h.box;have c3:=rc3 h.box;have HA:=h_ h;have hp:=h.lt
 have hm:Hid (ucE cs ws xs gs=0→(ucL cs ws xs gs).length≤128):=h_ fun h0=>by
  have hd:au cs ws=0:=by
   by_cases hd:au cs ws=0
   ·exact hd
   ·rw [Nf hd]at h0;exact absurd h0 hd
  unfold ucL;rw [if_pos h0,Wt];exact(jz hd).2.1
 have h6:Hid (∀v' h3 w',FsT b cs ws xs gs h3 os v' w'→Below b w w'→Z0 b cs ws xs gs os w (.returned (.int .i64 (ucE cs ws xs gs))) w'):=h_ fun v' h3 w' h1 h2=>⟨rfl,v',h3,h1,h2⟩
 clear h;generalize ucE cs ws xs gs=E at*;generalize ucL cs ws xs gs=L at*;go_enter Tryz.func33,Tryz.ntmps33;go_wp2;go_region_law(refine eh rfl 62 rfl #[.agg #[.slice v.cA v.cn v.cc,.slice v.wA v.wn v.wc],.agg #[.slice v.aA v.an v.ac,.slice v.gA v.gn v.gc]] (fun z:Option Addr×Nat×Nat=>Value.tuple #[.slice z.1 z.2.1 z.2.2,.int .i64 E]) (by simp [go_sem]) hj.o ?_;rintro⟨D,q,d⟩ w2 ⟨hc,h5,h7⟩)
 all_goals
  have H2:Hid (FsT b cs ws xs gs fr os v w2):=h_ (HA.o.drew.below h5);have B2:Hid (Below b w w2):=h_ (br.drew.trans (h5.mono (by show b≤w.heap.size;omega)));have R2:Hid (ab w2 w2.heap.size D q d (fun z=>[.int .i64 z]) 1 L):=h_ hc;have N2:Hid (da D q b):=h_ (fun a ha _ e=>by have:=h7 a ha;have e2:w.drew.heap.size=w.heap.size:=rfl;omega);clear hc h5 h7 c0 c1 c2 c3;by_cases hE:E=0
  ·subst hE;have h4:L.length=q:=R2.o.len;have hr:q≤128:=by rw [←h4];exact hm.o rfl
   have HL:=h_ h4;clear h4;have c6:=rc6 H2.o.box;have f6:=ak H2.o.box 6;go_wp2
   have I0:Hid (SwI b cs ws xs gs os D q d w2.heap.size L w {v with fA:=none,fn:=0,fc:=0} [] (w2.setCell ⟨b,6,none⟩ (.slice none 0 0))):=
    {fs:=H2.o.freeNil,below:=B2.o.setCell (p:=⟨b,6,none⟩) ler _,rows:=R2.o.far_set N2.o 6 _,new:=(fun g hg=>by cases hg),size:=by simp [World.setCell],far:=N2.o}
   clear c6 f6;generalize w2.setCell ⟨b,6,none⟩ (.slice none 0 0)=wz at*;go_loopw [5] (fun v5 wr=>∃(i:Nat) (u:FsV) (h3:List Int),v5= .int .i64 i∧2≤i∧i≤130∧Hid (u.fn≤i)∧Hid (SwI b cs ws xs gs os D q d w2.heap.size L w u h3 wr)) (fun v5 _=>q- (intOf v5).toNat)
   case atStart=>exact⟨2,_,_,rfl,by omega,by omega,h_ zl,I0.o⟩
   case round=>
    obtain⟨i,u,h3,rfl,hq,hn,hU,hP⟩:=hrel;rename World=>wr
    clear I0;by_cases hlt:i <q
    ·obtain⟨x,hx⟩:∃x,L[i]?=some x:=⟨_,gE (by rw [HL.o];exact hlt)⟩;obtain⟨bd,od,hD,hf,hs⟩:=hP.o.rows.one hx;have hh:(i:Int) < (q:Int):=by omega
     subst hD;have c0:=rc6 hP.o.fs.box;clear hf hx;by_cases hx0:x=0
     ·subst hx0;have G2:Hid (∀z∈(#[.int .i64 (i:Int)]:Array Value).toList,z.oneCell'=true):=by simp [Hid,Value.oneCell']
      have G3:Hid (u.fn+1≤maxLen∧(u.fn+1)*8≤140737488355328):=by have:=hU.o;unfold maxLen Hid;omega
      have G4:Hid (0 <1):=by simp [Hid]
      have GB:Hid (b+1≤wr.heap.size):=h_ hP.o.fs.lt;go_wp2_with(at_builtin;refine dx (size:=1) (bytes:=8) (base:=b+1) (news:= #[.int .i64 (i:Int)]) rfl rfl Tryz.underlying41 ta rfl G4.o hP.o.fs.of rfl GB.o rfl rfl rfl G2.o G3.o.1 G3.o.2 ?_;intro A3 c3 w3 he h9 hk;have h8:=dw hP.o.fs.box h9 (fun e=>by have e2:b+1≤b:=(hP.o.fs.of.lt _ e).1;omega);have q1:=aj h8 6;have q2:=ak h8 6);have HF:=h_ (hP.o.add h9 he hk);go_roundw
      case rel=>exact⟨i+1,_,_,by go_num,by omega,by omega,h_ (by have:=hU.o;show u.fn+1≤i+1;omega),HF.o⟩
      case measure=>simp [intOf];omega
     ·have g2:(x==0)=false:=bF hx0;go_wp2;go_roundw
      case rel=>exact⟨i+1,u,h3,by go_num,by omega,by omega,h_ (by have:=hU.o;omega),hP.o⟩
      case measure=>simp [intOf];omega
    ·have hh:¬(i:Int) < (q:Int):=by omega
     go_wp2;go_ret;exact h6.o _ _ _ hP.o.fs hP.o.below
  ·have g1:(E !=0)=true:=bN hE;go_wp2;go_ret;exact h6.o _ _ _ H2.o B2.o
def Src(w:World)(A:Option Addr)(m:Nat)(news:List Value):Prop:=(A=none→m=0)∧∀ad,A=some ad→∀j u,news[j]?=some u→w.cell? (ad.add j)=some u
theorem O8{α:Type}{enc:α→List Value}{k:Nat}(hk:∀x,(enc x).length=k)(hk0:0 <k){w:World}{B n c:Nat}{A:Option Addr}{xs:List α}(r:ab w B A n c enc k xs):Src w A n (xs.flatMap enc):=by
 have hl:=r.len;refine⟨fun e=>?_,fun ad e j u hu=>?_⟩
 ·subst e;by_cases h0:0 <n
  ·obtain⟨b,o,e,_⟩:=r.at_ 0 xs[0] (gE (by omega));cases e
  ·omega
 ·subst e;have hj:j <xs.length*k:=by have:=(gS.1 hu).1;rwa [ww hk]at this
  have hi:j/k <xs.length:=Nat.div_lt_of_lt_mul (by rwa [Nat.mul_comm]at hj);obtain⟨b,o,e,_,hc⟩:=r.at_ (j/k) xs[j/k] (gE hi);injection e with e;subst e;have h2:j%k <k:=Nat.mod_lt _ hk0
  have h1:(enc xs[j/k])[j%k]?=some u:=by have e1:(enc xs[j/k])[j%k]?=some ((enc xs[j/k])[j%k]'(by rw [hk];exact h2)):=gE _;have:=nw hk xs (j/k) _ (gE hi) (j%k) _ e1;have e2:j/k*k+j%k=j:=Nat.div_add_mod' j k;rw [e2,hu]at this;rw [e1,←this]
  have:=hc (j%k) u h1;have e2:o+j/k*k+j%k=o+j:=by have:=Nat.div_add_mod' j k;omega
  rw [e2]at this;rw [ms];exact this
section
variable {P:Program} {w:World}
theorem e0d{t ty e:TypeId}{z:Value}{size bytes:Nat}(ht:P.underlying t=some (.slice e))(hinfo:(P.info? e).map (fun i=>(i.zero,i.size,i.bytes))=some (some z,size,bytes))(hzs:z.cells.size=size)(hsz:0 <size){base:Nat}{v:Value}{n:Nat}{xs:List Value}(hown:af w base size v n xs)(hbase:base≤w.heap.size)(A2:Option Addr)(m c:Nat)(news:List Value)(hl:news.length=m*size)(hsrc:Src w A2 m news)(h1:∀u∈news,u.oneCell'=true)(h63:n+m≤maxLen)(hbytes:(n+m)*bytes≤140737488355328):
 ∃v' w',(Builtin.append_ #[t,t] ty #[v,.slice A2 m c]).run P w= .ok v' w'∧af w' base size v' (n+m) (xs++news)∧ed w w' base v.ownBlock∧
  (v'.ownBlock=v.ownBlock∨∀k,v'.ownBlock=some k→w.heap.size≤k):=by
 rcases A2 with _|ad
 ·obtain rfl:=hsrc.1 rfl
  have hn:news=[]:=List.eq_nil_of_length_eq_zero (by simpa using hl)
  subst hn
  obtain⟨i,hi,h0,h2,h3⟩:=info_parts hinfo
  refine⟨v,w,?_,by simpa using hown,⟨World.grownBy.refl w _,hbase,fun k hk=>(hown.lt k hk).1⟩,.inl rfl⟩
  rcases hown.2 with⟨rfl,rfl⟩|⟨g,off,cap,rfl,_,_,hnc,_⟩
  ·simp [Builtin.append_,run_underlying ht,sizeOf,typeInfo,hi,Builtin.lenOf,Builtin.firstCells]
  ·simp [Builtin.append_,run_underlying ht,sizeOf,typeInfo,hi,Builtin.lenOf,Builtin.firstCells,hnc,storeCells]
 ·exact yq ht hinfo hzs hsz hown hbase ad m c news hl (hsrc.2 ad rfl) h1 h63 hbytes
theorem O6{ops:Array Oper}{o:Oper}{a:Act}{K:Act→World→Prop}{Q:Exit→Act→World→Prop}{E:Prop}(hgd:o.guard=none)(s x:Operand)(t:TypeId)(ho:o.op= .call {callee:=.builtin .append,args:= #[s,x],argTypes:= #[t,t]})
 {e:TypeId} {z:Value} {size bytes:Nat} (ht:P.underlying t=some (.slice e)) (hinfo:(P.info? e).map (fun i=>(i.zero,i.size,i.bytes))=some (some z,size,bytes)) (hzs:z.cells.size=size) (hsz:0 <size)
 {base:Nat} (A:Option Addr) (n c0:Nat) (xs:List Value) (hs:a.eval s= .slice A n c0) (hown:af w base size (.slice A n c0) n xs) (hbase:base≤w.heap.size)
 (A2:Option Addr) (m c:Nat) (news:List Value) (hx:a.eval x= .slice A2 m c) (hl:news.length=m*size) (hsrc:Src w A2 m news) (h1:∀u∈news,u.oneCell'=true)
 (h63:n+m≤maxLen) (hbytes:(n+m)*bytes≤140737488355328)
 (h:∀A' c' w',af w' base size (.slice A' (n+m) c') (n+m) (xs++news)→ed w w' base (Value.ownBlock (.slice A n c0))→(Value.ownBlock (.slice A' (n+m) c')=Value.ownBlock (.slice A n c0)∨∀k,Value.ownBlock (.slice A' (n+m) c')=some k→w.heap.size≤k)→K (a.put o.dst (.slice A' (n+m) c')) w'):
 if Region.wanted o (yielded ops a.tmps)=true then Oper.wp P o a w K Q else E:=by
 have hw:Region.wanted o (yielded ops a.tmps)=true:=by simp [Region.wanted,hgd]
 rw [if_pos hw]
 obtain⟨v',w',h0,h2,h3,h4⟩:=e0d (P:=P) (ty:=o.type) ht hinfo hzs hsz hown hbase A2 m c news hl hsrc h1 h63 hbytes
 unfold Oper.wp execOp
 simp only [ho,resolve,invoke,builtin,Sem.run_bind,Sem.run_pure,Result.andThen_ok,List.map_toArray,List.map_cons,List.map_nil,hs,hx,h0]
 obtain⟨A',c',rfl⟩:=h2.form
 exact h A' c' w' h2 h3 h4
end
end Go.Proofs.YtcldpfhpkbeaiadGreat
