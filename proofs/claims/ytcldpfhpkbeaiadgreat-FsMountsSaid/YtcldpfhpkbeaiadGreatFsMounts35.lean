/- A part of the proof of FsMounts. No condition of ours. -/
import Derived.Test.YtcldpfhpkbeaiadGreatFsMounts32
import Derived.Test.YtcldpfhpkbeaiadGreatFsMounts34
import Derived.Test.YtcldpfhpkbeaiadGreatFsMounts31
set_option maxRecDepth 20000
set_option maxHeartbeats 8000000
namespace Go.Proofs.YtcldpfhpkbeaiadGreat
section
open Go.RowKit
def ua(cs:List ByteArray)(ws:List ae)(xs:List aa)(gs:List Int)(w:World)(e:Ending)(w':World):Prop:=
 (ix cs ws xs gs 48∧∃(D:Option Addr) (d:Nat),e= .returned (.tuple #[.slice D (alL cs ws xs 48).length d,.bool true])∧ab w' w'.heap.size D (alL cs ws xs 48).length d aa.cells 2 (alL cs ws xs 48)∧Below w.heap.size w w')∨
 (¬ix cs ws xs gs 48∧e= .returned (.tuple #[.slice none 0 0,.bool false])∧Below w.heap.size w w')
theorem Pk{α:Type}{enc:α→List Value}{k n c B base:Nat}{A:Option Addr}{xs:List α}{w w':World}{row:Option Nat}(r:ab w B A n c enc k xs)(hl:ed w w' base row)(hM:∀b o,A=some ⟨b,o,none⟩→0 <n→row≠some b):ab w' B A n c enc k xs:=
 ⟨r.len,r.le,r.top,fun i x hx=>by
   obtain⟨b,o,e,hb,hc⟩:=r.at_ i x hx
   have h0:0 <n:=by have:=r.len;have:=(gS.1 hx).1;omega
   exact⟨b,o,e,hb,fun j u hu=>hl.cell (hc j u hu) (hM b o e h0)⟩⟩
structure UaI(cs:List ByteArray)(ws:List ae)(xs:List aa)(gs:List Int)(wa:World)(i:Nat)(Ao:Option Addr)(co:Nat)(wr:World):Prop where
 good:ix cs ws xs gs i
 own:af wr wa.heap.size 2 (.slice Ao (alL cs ws xs i).length co) (alL cs ws xs i).length ((alL cs ws xs i).flatMap aa.cells)
 below:Below wa.heap.size wa wr
structure UaJ(cs:List ByteArray)(ws:List ae)(l:List aa)(wa:World)(i j:Nat)(p:aa)(ps:List aa)(Ao:Option Addr)(co:Nat)(D:Option Addr)(d:Nat)(wr:World):Prop where
 ok:ov cs ws i ps j
 own:af wr wa.heap.size 2 (.slice Ao (l++(p::ptL ps j)).length co) (l++(p::ptL ps j)).length ((l++(p::ptL ps j)).flatMap aa.cells)
 rows:ab wr wr.heap.size D ps.length d aa.cells 2 ps
 below:Below wa.heap.size wa wr
 far:∀b' o,D=some ⟨b',o,none⟩→0 <ps.length→Value.ownBlock (.slice Ao (l++(p::ptL ps j)).length co)≠some b'
theorem Yy{w:World}{base co:Nat}{Ao:Option Addr}{l:List aa}{p:aa}(h:af w base 2 (.slice Ao (l.length+1) co) (l.length+1) (l.flatMap aa.cells++[.int .i64 p.Cell,.int .i64 p.Nth])):af w base 2 (.slice Ao (l++[p]).length co) (l++[p]).length ((l++[p]).flatMap aa.cells):=by
 rw [List.flatMap_append];have e:(l++[p]).length=l.length+1:=by simp
 rw [e];exact h
theorem Pj{w:World}{B n c b o:Nat}{xs:List aa}(r:ab w B (some ⟨b,o,none⟩) n c aa.cells 2 xs)(h:0 <n):b <B:=by have hl:=r.len;obtain⟨b',o',e,hb,_⟩:=r.at_ 0 _ (gE (by omega));injection e with e;injection e with e1 _ _;subst e1;exact hb
theorem v0a{w7 w9:World}{vs:Array Value}{t:TypeId}(hb:Below (w7.alloc (.cells vs t)).heap.size (w7.alloc (.cells vs t)) w9):w9.heap[w7.heap.size]?=some (.cells vs t (0,0))∧w7.heap.size <w9.heap.size:=by have h:=ah (A_ w7 (.cells vs t)) (ag (A_ w7 (.cells vs t))) hb;exact⟨h,ag h⟩
theorem a0s{cs:List ByteArray}{ws:List ae}{i co c3 d:Nat}{l ps:List aa}{p:aa}{wa w4 w5 w6:World}{X:Obj}{Ao A3 D:Option Addr}(ho:af w4 wa.heap.size 2 (.slice Ao l.length co) l.length (l.flatMap aa.cells))(hb4:Below wa.heap.size wa w4)(hb5:Below w4.heap.size w4 w5)(r5:ab w5 w5.heap.size D ps.length d aa.cells 2 ps)(hf5:∀a,D=some a→w4.heap.size≤a.block)(hown:af w6 wa.heap.size 2 (.slice A3 (l.length+1) c3) (l.length+1) (l.flatMap aa.cells++[.int .i64 p.Cell,.int .i64 p.Nth]))(hl:ed (w5.alloc X) w6 wa.heap.size (Value.ownBlock (.slice Ao l.length co)))(hn:Value.ownBlock (.slice A3 (l.length+1) c3)=Value.ownBlock (.slice Ao l.length co)∨∀k,Value.ownBlock (.slice A3 (l.length+1) c3)=some k→(w5.alloc X).heap.size≤k):UaJ cs ws l wa i 0 p ps A3 c3 D d w6:=by
 have e:l++(p::ptL ps 0)=l++[p]:=rfl;have e2:(l++[p]).length=l.length+1:=by rw [List.length_append];rfl
 have h1:∀b o,D=some ⟨b,o,none⟩→0 <ps.length→Value.ownBlock (.slice Ao l.length co)≠some b:=fun b o h _ h'=>by have q1:=(ho.lt b h').2;have q2:w4.heap.size≤b:=hf5 _ h;omega
 exact {ok:=fun j q h=>by omega,own:=by rw [e];exact Yy hown
        rows:=(Pk (r5.alloc ler X) hl h1).more (by have:=hl.size;simp at this;omega)
        below:=hl.below ler ((hb4.trans (hb5.mono hb4.size)).alloc (hb4.trans (hb5.mono hb4.size)).size X)
        far:=fun b o h h0 h'=>by
         rw [e,e2]at h';rcases hn with hn|hn
         ·rw [hn]at h';exact h1 b o h h0 h'
         ·have q1:=hn b h';subst h;have q2:=Pj r5 h0
          simp at q1;omega}
theorem a0t{cs:List ByteArray}{ws:List ae}{i j co d:Nat}{l ps:List aa}{p q:aa}{wa w7:World}{X:Obj}{Ao D:Option Addr}(h:UaJ cs ws l wa i j p ps Ao co D d w7)(hq:ps[j]?=some q)(h0:q.Cell=0):UaJ cs ws l wa i (j+1) p ps Ao co D d (w7.alloc X)∧ptL ps (j+1)=ptL ps j:=by have e:=Qt hq h0;exact⟨{ok:=Cd h.ok hq (.inl h0),own:=by rw [e];exact h.own.alloc _,rows:=(h.rows.alloc ler _).more (by simp),below:=h.below.alloc h.below.size _,far:=by rw [e];exact h.far},e⟩
theorem a0u{cs:List ByteArray}{ws:List ae}{i j co c3 d:Nat}{l ps:List aa}{p q:aa}{wa w7 w9 w10:World}{X Y:Obj}{Ao A3 D:Option Addr}(h:UaJ cs ws l wa i j p ps Ao co D d w7)(hq:ps[j]?=some q)(h0:q.Cell≠0)(hok:km cs ws i j q)(hb9:Below (w7.alloc X).heap.size (w7.alloc X) w9)(hown:af w10 wa.heap.size 2 (.slice A3 ((l++(p::ptL ps j)).length+1) c3) ((l++(p::ptL ps j)).length+1) ((l++(p::ptL ps j)).flatMap aa.cells++[.int .i64 q.Cell,.int .i64 q.Nth]))(hl:ed (w9.alloc Y) w10 wa.heap.size (Value.ownBlock (.slice Ao (l++(p::ptL ps j)).length co)))(hn:Value.ownBlock (.slice A3 ((l++(p::ptL ps j)).length+1) c3)=Value.ownBlock (.slice Ao (l++(p::ptL ps j)).length co)∨∀k,Value.ownBlock (.slice A3 ((l++(p::ptL ps j)).length+1) c3)=some k→(w9.alloc Y).heap.size≤k):UaJ cs ws l wa i (j+1) p ps A3 c3 D d w10∧(l++(p::ptL ps (j+1))).length=(l++(p::ptL ps j)).length+1:=by
 have e:l++(p::ptL ps (j+1))=(l++(p::ptL ps j))++[q]:=by rw [Qu hq h0];simp
 have e2:((l++(p::ptL ps j))++[q]).length=(l++(p::ptL ps j)).length+1:=by rw [List.length_append];rfl
 have h2:=hb9.size;have h1:=hl.size;have z8:(w7.alloc X).heap.size=w7.heap.size+1:=by simp
 have z9:(w9.alloc Y).heap.size=w9.heap.size+1:=by simp
 have h8:Below wa.heap.size wa (w7.alloc X):=h.below.alloc h.below.size _;have h9:Below wa.heap.size wa w9:=h8.trans (hb9.mono h8.size)
 exact⟨{ok:=Cd h.ok hq (.inr hok),own:=by rw [e];exact Yy hown
        rows:=(Pk ((((h.rows.alloc ler X).more (by simp)).below hb9).alloc (by omega) Y) hl h.far).more (by omega)
        below:=hl.below ler (h9.alloc h9.size Y)
        far:=fun b o hD hz h'=>by
         rw [e,e2]at h';rcases hn with hn|hn
         ·rw [hn]at h';exact h.far b o hD hz h'
         ·have q1:=hn b h';subst hD;have q2:=Pj h.rows hz
          omega},by rw [e,e2]⟩
theorem x0e{f:FuncId}{args:Array Value}{W:World}{cs:List ByteArray}{ws:List ae}{k:Nat}{p:aa}{g:Int}(h:Calls Tryz.prog f args W (Fb cs ws k p g W))(hok:fw cs ws k p g):Calls Tryz.prog f args W fun e w'=>∃(K G S:Int) (D:Option Addr) (q d:Nat),e= .returned (.tuple #[.agg #[.int .i64 K,.int .i64 G,.int .i64 S,.slice D q d],.bool true])∧ab w' w'.heap.size D q d aa.cells 2 (pts cs ws p)∧Below W.heap.size W w'∧(∀a,D=some a→W.heap.size≤a.block):=
 h.mono fun _ _ h=>by
  rcases h with⟨_,h⟩|⟨h,_⟩
  ·exact h
  ·exact absurd hok h
theorem x0f{f:FuncId}{args:Array Value}{W:World}{cs:List ByteArray}{ws:List ae}{k:Nat}{p:aa}{g:Int}(h:Calls Tryz.prog f args W (Fb cs ws k p g W))(hok:¬fw cs ws k p g):Calls Tryz.prog f args W fun e w'=>∃(K G S:Int) (D:Option Addr) (q d:Nat),e= .returned (.tuple #[.agg #[.int .i64 K,.int .i64 G,.int .i64 S,.slice D q d],.bool false])∧Below W.heap.size W w':=
 h.mono fun _ _ h=>by
  rcases h with⟨h,_⟩|⟨_,h⟩
  ·exact absurd h hok
  ·exact h
theorem w0v(A:Option Addr)(n c:Nat)(cs:List ByteArray)(A':Option Addr)(n' c':Nat)(ws:List ae)(Am:Option Addr)(nm cm:Nat)(xs:List aa)(Ag:Option Addr)(ng cg:Nat)(gs:List Int)(w:World)(r:ab w w.heap.size A n c (fun z=>[.string z]) 1 cs)(r':ab w w.heap.size A' n' c' ae.cells 2 ws)(rm:ab w w.heap.size Am nm cm aa.cells 2 xs)(rg:ab w w.heap.size Ag ng cg (fun z=>[.int .i64 z]) 1 gs)(hd:au cs ws=0)(hok:jw xs gs):Calls Tryz.prog 38 #[.agg #[.slice A n c,.slice A' n' c'],.agg #[.slice Am nm cm,.slice Ag ng cg]] w (ua cs ws xs gs w):=by
 have gB:=r.len;subst gB;have hZ:=r'.len;subst hZ;have hX:=rm.len;subst hX;have gD:=rg.len;subst gD;obtain⟨wa,he⟩:∃wa,wa=(w.alloc (.cells #[.slice A cs.length c,.slice A' ws.length c'] 25)).alloc (.cells #[.slice Am xs.length cm,.slice Ag gs.length cg] 43):=⟨_,rfl⟩;have g7:wa.heap.size=w.heap.size+2:=by rw [he];simp
 have hc:Below w.heap.size w wa:=by rw [he];exact(br.alloc ler _).alloc (by simp) _
 have hy:wa.heap[w.heap.size+1]?=some (.cells #[.slice Am xs.length cm,.slice Ag gs.length cg] 43 (0,0)):=by rw [he];have:=A_ (w.alloc (.cells #[.slice A cs.length c,.slice A' ws.length c'] 25)) (.cells #[.slice Am xs.length cm,.slice Ag gs.length cg] 43);rw [show(w.alloc (.cells #[.slice A cs.length c,.slice A' ws.length c'] 25)).heap.size=w.heap.size+1 by simp]at this;exact this
 have hB:wa.heap[w.heap.size]?=some (.cells #[.slice A cs.length c,.slice A' ws.length c'] 25 (0,0)):=by rw [he];exact(heap_alloc_old _ _ (by simp)).trans (A_ w _)
 have hp:=hc.size;have RA:=h_ ((r.below hc).more hp);have hU:=h_ ((r'.below hc).more hp);have RM:=h_ ((rm.below hc).more hp);have RG:=h_ ((rg.below hc).more hp)
 have HC:Hid (∀W,Below wa.heap.size wa W→W.cell? ⟨w.heap.size,0,none⟩=some (.slice A cs.length c)∧W.cell? ⟨w.heap.size,1,none⟩=some (.slice A' ws.length c')∧W.cell? ⟨w.heap.size+1,0,none⟩=some (.slice Am xs.length cm)∧W.cell? ⟨w.heap.size+1,1,none⟩=some (.slice Ag gs.length cg)∧w.heap.size <W.heap.size∧w.heap.size+1 <W.heap.size):=fun W h=>by have q0:=ah hB (ag hB) h;have q1:=ah hy (ag hy) h;exact⟨aj q0 0,aj q0 1,aj q1 0,aj q1 1,ag q0,ag q1⟩
 have gg:=h_ he;have h7:=h_ hc;clear r r' rm rg he hc hB hy hp g7;have HD:=h_ hd;have HX:=h_ hok;have h400:=(jz hd).2.2.2.2;have Z3:=h_ h400;have gG:48≤xs.length:=by rw [hok.1];omega
 have hG:Hid (¬ix cs ws xs gs 48→∀w',Below w.heap.size w w'→ua cs ws xs gs w (.returned (.tuple #[.slice none 0 0,.bool false])) w'):=fun h w' hb=>.inr ⟨h,rfl,hb⟩
 have hL:Hid (ix cs ws xs gs 48→∀(D:Option Addr) (d:Nat) (w':World),ab w' w'.heap.size D (alL cs ws xs 48).length d aa.cells 2 (alL cs ws xs 48)→Below w.heap.size w w'→ua cs ws xs gs w (.returned (.tuple #[.slice D (alL cs ws xs 48).length d,.bool true])) w'):=fun h D d w' hr hb=>.inl ⟨h,D,d,rfl,hr,hb⟩
 clear hd hok h400;go_enter Tryz.func38,Tryz.ntmps38;go_wp2;rw [←gg.o];have I0:Hid (UaI cs ws xs gs wa 0 none 0 wa):= {good:=Yx,own:=af.nil _ _ _,below:=br};go_loopw [6,14] (fun v6 v14 wr=>∃(i:Nat) (Ao:Option Addr) (co:Nat),i≤48∧v14= .int .i64 i∧v6= .slice Ao (alL cs ws xs i).length co∧Hid (UaI cs ws xs gs wa i Ao co wr)) (fun _ v14 _=>48- (intOf v14).toNat)
 case atStart=>exact⟨0,none,0,zl,rfl,rfl,I0.o⟩
 case round=>
  obtain⟨i,Ao,co,hi,rfl,rfl,hP⟩:=hrel;obtain⟨w4,rfl⟩:∃z:World,z=wr:=⟨_,rfl⟩;clear I0;by_cases hlt:i <48
  ·have e1:=gE (l:=xs) (i:=i) (by omega);have hS:i <gs.length:=by have h2:=HX.o.2.1;omega
   have e2:=gE hS;generalize hpx:xs[i]=p at e1;generalize hgx:gs[i]=g at e2;obtain⟨pc,pn⟩:=p;have E1:=h_ e1;have E2:=h_ e2
   have g9:dk pc pn=true:=by obtain⟨p',g',h1,_,h3,_⟩:=HX.o.2.2 i hlt;rw [e1]at h1;injection h1 with h1;subst h1;exact h3
   obtain⟨bm,om,g4,hs,hF⟩:=(RM.o.below hP.o.below).at_ i _ e1;have c0:w4.cell? ⟨bm,om+i*2,none⟩=some (.int .i64 pc):=by simpa using hF 0 _ rfl
   have c1:w4.cell? ⟨bm,om+i*2+1,none⟩=some (.int .i64 pn):=hF 1 _ rfl;have i1:(i:Int) < (xs.length:Int):=by omega
   have i2:(i:Int) <48:=by omega
   subst g4;have hJ:=h_ (Yw (cs:=cs) (ws:=ws) (xs:=xs) i);obtain⟨v0,v1,v2,v3,v4,v5⟩:=HC.o w4 hP.o.below;clear e1 e2 hpx hgx hF hi hS;by_cases hp0:pc=0
   ·have hx:pn=0:=by
     have h:dz pc pn:=by simpa [dk]using g9
     unfold dz at h;omega
    subst hp0;subst hx;have I1:Hid (UaI cs ws xs gs wa (i+1) Ao co w4):= {good:=Ep hP.o.good E1.o E2.o (.inl rfl),own:=by rw [An E1.o,Jc rfl,List.append_nil];exact hP.o.own,below:=hP.o.below};have HE:Hid (alL cs ws xs (i+1)=alL cs ws xs i):=by simp only [Hid];rw [An E1.o,Jc rfl,List.append_nil]
    go_wp2_with fail;go_roundw
    case rel=>exact⟨i+1,Ao,co,by omega,by go_num,by rw [HE.o],I1.o⟩
    case measure=>(simp [intOf];try omega)
   ·have g0:(pc==0)=false:=bF hp0;have gK:=h_ hp0;have ht:=h_ (w0w A _ c cs A' _ c' ws (some ⟨bm,om,none⟩) _ cm xs Ag _ cg gs i pc pn g w4 ((RA.o.below hP.o.below).more hP.o.below.size) ((hU.o.below hP.o.below).more hP.o.below.size) ((RM.o.below hP.o.below).more hP.o.below.size) ((RG.o.below hP.o.below).more hP.o.below.size) HD.o E1.o E2.o);by_cases hok:fw cs ws i ⟨pc,pn⟩ g
    ·have ga:=h_ hok;have hH:=h_ (x0e ht.o hok);have hI:Hid ((pts cs ws ⟨pc,pn⟩).length≤8):=J9 _;have hW:Hid (∀q∈pts cs ws ⟨pc,pn⟩,dk q.Cell q.Nth=true):=fun q hq=>U3 hq
     have g3:Hid (¬ov cs ws i (pts cs ws ⟨pc,pn⟩) (pts cs ws ⟨pc,pn⟩).length→∀w',Below w.heap.size w w'→ua cs ws xs gs w (.returned (.tuple #[.slice none 0 0,.bool false])) w'):=fun h=>hG.o (Er hlt E1.o E2.o (fun g=>by rcases g with g|g;exact hp0 g;exact h g.2))
     have hV:Hid (ov cs ws i (pts cs ws ⟨pc,pn⟩) (pts cs ws ⟨pc,pn⟩).length→ix cs ws xs gs (i+1)):=fun h=>Ep hP.o.good E1.o E2.o (.inr ⟨hok,h⟩)
     have hT:Hid (alL cs ws xs (i+1)=alL cs ws xs i++(⟨pc,pn⟩::ptL (pts cs ws ⟨pc,pn⟩) (pts cs ws ⟨pc,pn⟩).length)):=by rw [Hid,An E1.o,Ua hp0]
     have hg:=h_ hP.o.own;have hf:=h_ hP.o.below;have hz:=h_ hlt;have i3:¬(i:Int) <0:=by omega
     clear hok ht hp0 hG hL ga E1 E2 hP hlt RM RG HX;generalize hl0:alL cs ws xs i=l at*;obtain⟨l1,hC⟩:∃z,z=alL cs ws xs (i+1):=⟨_,rfl⟩;rw [←hC]at hT;have gb:=h_ hC.symm;generalize hps:pts cs ws ⟨pc,pn⟩=ps at*;clear hl0 hC hps;have G2:Hid (∀u∈(#[.int .i64 pc,.int .i64 pn]:Array Value).toList,u.oneCell'=true):=by simp [Hid,Value.oneCell']
     have G3:Hid (l.length+1≤maxLen∧(l.length+1)*16≤140737488355328):=by unfold maxLen Hid;have:=hJ.o;have:=hz.o;omega
     have G4:Hid (0 <2):=by simp [Hid]
     go_wp2_with(first
      |(go_at_call 40;refine hH.o.mono ?_;rintro e w5 ⟨K,G,S,D,q,d,rfl,r5,h9,hK⟩;obtain rfl:=r5.len;have ha:=h_ h9;have R5:=h_ r5;have hQ:=h_ hK;have hu:=h_ (hf.o.trans (h9.mono hf.o.size));obtain⟨u0,u1,u2,u3,u4,u5⟩:=HC.o w5 hu.o;have k0:=(h9.cell (p:=⟨bm,om+i*2,none⟩) (Nat.lt_of_lt_of_le hs hf.o.size)).trans c0;have k1:=(h9.cell (p:=⟨bm,om+i*2+1,none⟩) (Nat.lt_of_lt_of_le hs hf.o.size)).trans c1;have k9:=Nat.lt_of_lt_of_le (Nat.lt_of_lt_of_le hs hf.o.size) h9.size;clear h9 r5 hK)
      |(at_builtin;refine dx (size:=2) (bytes:=16) (base:=wa.heap.size) (H:=w5.heap.size+1) (news:= #[.int .i64 pc,.int .i64 pn]) rfl rfl Tryz.underlying40 t7 rfl G4.o ((hg.o.fresh_below ha.o).alloc (.cells #[.int .i64 K,.int .i64 G,.int .i64 S,.slice D ps.length d] 67)) rfl (hu.o.alloc hu.o.size _).size rfl (World.size_alloc _ _) rfl G2.o G3.o.1 G3.o.2 ?_;intro A3 c3 w6 hR hl hn;have hw:=dw (A_ w5 (.cells #[.int .i64 K,.int .i64 G,.int .i64 S,.slice D ps.length d] 67)) hl (af.ne_of_le (hg.o.fresh_below ha.o) ler);have m3:=rc3 hw;have m4:=ag hw))
     have J0:Hid (UaJ cs ws l wa i 0 ⟨pc,pn⟩ ps A3 c3 D d w6):=a0s hg.o hf.o ha.o R5.o hQ.o hR hl hn;have JL:Hid ((l++((⟨pc,pn⟩:aa)::ptL ps 0)).length=l.length+1):=by simp [Hid,ptL]
     clear hR hl hn hw m3 m4 k0 k1 k9 u0 u1 u2 u3 u4 u5 v0 v1 v2 v3 v4 v5 c0 c1 hs ha R5 hQ hu hH G3 G2;go_loopw [6,44] (fun v6 v44 wr=>∃(j:Nat) (Ao:Option Addr) (co:Nat),j≤ps.length∧v44= .int .i64 j∧v6= .slice Ao (l++((⟨pc,pn⟩:aa)::ptL ps j)).length co∧Hid (UaJ cs ws l wa i j ⟨pc,pn⟩ ps Ao co D d wr)) (fun _ v44 _=>ps.length- (intOf v44).toNat)
     case atStart=>exact⟨0,A3,c3,zl,rfl,by rw [JL.o],J0.o⟩
     case round=>
      obtain⟨j,Ao,co,hj,rfl,rfl,hP⟩:=hrel;obtain⟨w7,rfl⟩:∃z:World,z=wr:=⟨_,rfl⟩;clear J0;by_cases hlt:j <ps.length
      ·have e1:=gE (l:=ps) (i:=j) hlt;generalize hpx:ps[j]=q at e1;obtain⟨qc,qn⟩:=q;have E1:=h_ e1;have gC:dk qc qn=true:=hW.o ⟨qc,qn⟩ (List.mem_of_getElem? e1);obtain⟨bd,od,hD,gI,hA⟩:=hP.o.rows.at_ j _ e1;have c0:w7.cell? ⟨bd,od+j*2,none⟩=some (.int .i64 qc):=by simpa using hA 0 _ rfl
       have c1:w7.cell? ⟨bd,od+j*2+1,none⟩=some (.int .i64 qn):=hA 1 _ rfl;have j1:(j:Int) < (ps.length:Int):=by omega
       have j8:(j:Int) <8:=by have:=hI.o;omega
       subst hD;obtain⟨v0,v1,v2,v3,v4,v5⟩:=HC.o w7 hP.o.below;clear e1 hpx hA hj;by_cases hp0:qc=0
       ·have hx:qn=0:=by
         have h:dz qc qn:=by simpa [dk]using gC
         unfold dz at h;omega
        subst hp0;subst hx;have JS:Hid (UaJ cs ws l wa i (j+1) ⟨pc,pn⟩ ps Ao co (some ⟨bd,od,none⟩) d (w7.alloc (.cells #[.int .i64 0,.int .i64 0] 89))∧ptL ps (j+1)=ptL ps j):=a0t hP.o E1.o rfl;go_wp2_with fail;go_roundw
        case rel=>exact⟨j+1,Ao,co,by omega,by go_num,by rw [JS.o.2],JS.o.1⟩
        case measure=>(simp [intOf];try omega)
       ·have g1:(qc==0)=false:=bF hp0;have g5:=h_ hp0;obtain⟨w8,hk⟩:∃z,z=w7.alloc (.cells #[.int .i64 qc,.int .i64 qn] 89):=⟨_,rfl⟩;have h6:Below wa.heap.size wa w8:=by rw [hk];exact hP.o.below.alloc hP.o.below.size _
        have h8:=h_ (La A _ c cs A' _ c' ws qc qn w8 ((RA.o.below h6).more h6.size) ((hU.o.below h6).more h6.size) Z3.o);unfold s5 at h8;have gF:=h_ h6;rw [hk]at h8;have hh:Hid (¬(ubE cs ws qc qn=0∧(ubB cs ws qc qn).Kind=1∧(ubB cs ws qc qn).Ino=i∧(ubB cs ws qc qn).Nth=j)→∀w',Below w.heap.size w w'→ua cs ws xs gs w (.returned (.tuple #[.slice none 0 0,.bool false])) w'):=fun h=>g3.o (Ry E1.o hp0 h)
        have hM:Hid ((ubE cs ws qc qn=0∧(ubB cs ws qc qn).Kind=1∧(ubB cs ws qc qn).Ino=i∧(ubB cs ws qc qn).Nth=j)→km cs ws i j ⟨qc,qn⟩):=id;have gJ:=h_ hk;have hm:Hid (∀w9,Below w8.heap.size w8 w9→∀X:Obj,Below w.heap.size w (w9.alloc X)):=fun w9 h X=>(h7.o.trans ((h6.trans (h.mono h6.size)).mono h7.o.size)).alloc (h7.o.trans ((h6.trans (h.mono h6.size)).mono h7.o.size)).size X
        clear hp0 h6;rw [hk]at hm;clear hk;generalize ubE cs ws qc qn=E at*;generalize ubB cs ws qc qn=B at*;obtain⟨bk,bi,bn,bt⟩:=B;simp only at h8 hh hM;by_cases hE:E=0
        ·subst hE;by_cases h1:bk=1
         ·subst h1;by_cases h2:bi=(i:Int)
          ·subst h2;by_cases h3:bn=(j:Int)
           ·subst h3;have HY:=h_ (hM.o ⟨rfl,rfl,rfl,rfl⟩);have hg:=h_ hP.o.own;have G2:Hid (∀u∈(#[.int .i64 qc,.int .i64 qn]:Array Value).toList,u.oneCell'=true):=by simp [Hid,Value.oneCell']
            have G3:Hid ((l++((⟨pc,pn⟩:aa)::ptL ps j)).length+1≤maxLen∧((l++((⟨pc,pn⟩:aa)::ptL ps j)).length+1)*16≤140737488355328):=by
             have h1:=hJ.o;have h2:=hz.o;have h3:=Gw ps j;have h4:=hI.o;have h5:(l++((⟨pc,pn⟩:aa)::ptL ps j)).length=l.length+((ptL ps j).length+1):=by rw [List.length_append];rfl
             unfold maxLen Hid;omega
            have G5:Hid (∀w9,Below (w7.alloc (.cells #[.int .i64 qc,.int .i64 qn] 89)).heap.size (w7.alloc (.cells #[.int .i64 qc,.int .i64 qn] 89)) w9→∀Y:Obj,af (w9.alloc Y) wa.heap.size 2 (.slice Ao (l++((⟨pc,pn⟩:aa)::ptL ps j)).length co) (l++((⟨pc,pn⟩:aa)::ptL ps j)).length ((l++((⟨pc,pn⟩:aa)::ptL ps j)).flatMap aa.cells)∧wa.heap.size≤(w9.alloc Y).heap.size):=fun w9 h Y=>⟨((hg.o.alloc _).fresh_below h).alloc Y,by
 have h1:=h.size
 have h2:=hP.o.below.size
 simp at h1⊢
 omega⟩
            generalize hll:(l++((⟨pc,pn⟩:aa)::ptL ps j)).length=ll at*
            go_wp2_with(first
             |(go_at_call 69;refine h8.o.mono ?_;rintro e w9 ⟨rfl,h0⟩;obtain⟨kb,kz⟩:=v0a h0;have k0:=rc0 kb;have k1:=rc1 kb;have hv:=h_ h0;clear h0)
             |(at_builtin;refine dx (size:=2) (bytes:=16) (base:=wa.heap.size) (H:=w9.heap.size+1) (news:= #[.int .i64 qc,.int .i64 qn]) rfl rfl Tryz.underlying40 t7 rfl G4.o (G5.o w9 hv.o (.cells #[.int .i64 1,.int .i64 i,.int .i64 j,.string bt] 85)).1 rfl (G5.o w9 hv.o (.cells #[.int .i64 1,.int .i64 i,.int .i64 j,.string bt] 85)).2 rfl (World.size_alloc _ _) rfl G2.o G3.o.1 G3.o.2 ?_;intro A4 c4 gH hY g6 gw))
            subst hll;have JA:=h_ (a0u hP.o E1.o g5.o HY.o hv.o hY g6 gw);go_roundw
            case rel=>exact⟨j+1,A4,c4,by omega,by go_num,by rw [JA.o.2],JA.o.1⟩
            case measure=>(simp [intOf];try omega)
           ·have g2:(bn !=(j:Int))=true:=bN h3;have HN:=h_ (hh.o (fun h=>h3 h.2.2.2));clear h3;go_wp2_with(go_at_call 69;refine h8.o.mono ?_;rintro e w9 ⟨rfl,h0⟩);go_ret2;exact HN.o _ (hm.o w9 h0 _)
          ·have g2:(bi !=(i:Int))=true:=bN h2;have HN:=h_ (hh.o (fun h=>h2 h.2.2.1));clear h2;go_wp2_with(go_at_call 69;refine h8.o.mono ?_;rintro e w9 ⟨rfl,h0⟩);go_ret2;exact HN.o _ (hm.o w9 h0 _)
         ·have g2:(bk !=1)=true:=bN h1;have HN:=h_ (hh.o (fun h=>h1 h.2.1));clear h1;go_wp2_with(go_at_call 69;refine h8.o.mono ?_;rintro e w9 ⟨rfl,h0⟩);go_ret2;exact HN.o _ (hm.o w9 h0 _)
        ·have g2:(E !=0)=true:=bN hE;have HN:=h_ (hh.o (fun h=>hE h.1));clear hE;go_wp2_with(go_at_call 69;refine h8.o.mono ?_;rintro e w9 ⟨rfl,h0⟩);go_ret2;exact HN.o _ (hm.o w9 h0 _)
      ·obtain rfl:j=ps.length:=by omega
       have j2:¬((ps.length:Nat):Int) < (ps.length:Int):=by omega
       have II:Hid (∀l1',l1'=l1→ix cs ws xs gs (i+1)∧af w7 wa.heap.size 2 (.slice Ao l1'.length co) l1'.length (l1'.flatMap aa.cells)∧Below wa.heap.size wa w7∧(l++((⟨pc,pn⟩:aa)::ptL ps ps.length)).length=l1'.length):=fun l1' h=>by subst h;rw [hT.o];exact⟨hV.o hP.o.ok,hP.o.own,hP.o.below,rfl⟩
       go_wp2_with fail;go_roundw
       case rel=>obtain⟨q1,q2,q3,q4⟩:=II.o (alL cs ws xs (i+1)) gb.o;exact⟨i+1,Ao,co,by have:=hz.o;omega,by go_num,by rw [q4],⟨q1,q2,q3⟩⟩
       case measure=>(simp [intOf];try omega)
    ·have hN:=Er (m:=48) (cs:=cs) (ws:=ws) hlt E1.o E2.o (fun h=>by rcases h with h|h;exact hp0 h;exact hok h.1);have HN:=h_ (hG.o hN);have g8:=h_ (x0f ht.o hok);clear hok hN ht hp0;go_wp2_with(go_at_call 40;refine g8.o.mono ?_;rintro e w5 ⟨K,G,S,D,q,d,rfl,h9⟩;have ha:=h_ (hP.o.below.trans (h9.mono hP.o.below.size)));go_ret2;exact HN.o _ (h7.o.trans ((ha.o.alloc ha.o.size _).mono h7.o.size))
  ·obtain rfl:i=48:=by omega
   have i2:¬((48:Nat):Int) <48:=by omega
   have HY:=h_ (hL.o hP.o.good);go_wp2_with fail;go_ret2;exact HY.o _ _ _ (hP.o.own.rows su (by decide)) (h7.o.trans (hP.o.below.mono h7.o.size))
end
section
open Go.RowKit Go.PlainAid
theorem s0p(s:ByteArray)(hs:s.size≤1048575)(w:World):Calls Tryz.prog 43 #[.string s] w (tp s w):=by
 have HS:=h_ hs;have hr:(s.size:Int)≤1048575:=by omega
 clear hs;go_enter Tryz.func43,Tryz.ntmps43;go_wp2;go_loopw [4,5] (fun v4 v5 wr=>∃(p:Nat) (L:List ay),v5= .int .i64 p∧Hid (RdI s w p L v4 wr)) (fun _ v5 _=>s.size- (intOf v5).toNat)
 case atStart=>exact⟨0,[],rfl,Qh s,af.nil _ _ _,br⟩
 case round=>
  obtain⟨p,L,rfl,HR⟩:=hrel;obtain⟨wq,rfl⟩:∃z:World,z=wr:=⟨_,rfl⟩;obtain⟨A,c,rfl⟩:=HR.o.own.form;have h5:=HR.o.lst.le;have ht:(p:Int)≤1048575:=by omega
  by_cases hlt:p <s.size
  ·have hp:(p:Int) < (s.size:Int):=by omega
   obtain⟨n,hn⟩:∃n:Nat,bt s p=(n:Int):=⟨(bt s p).toNat,by have:=bt_nonneg s p;omega⟩;have hn255:(n:Int)≤255:=by rw [←hn];exact bt_le s p
   have hg:=get_bt s;by_cases h2:s.size≤p+n+1
   ·have hc:(s.size:Int)≤(p:Int)+(n:Int)+1:=by omega
    have F:=h_ (HR.o.lst.none hlt hn (by omega));clear h5 h2;go_wp2;go_ret2;exact By F.o HR.o.below
   ·have hc:¬(s.size:Int)≤(p:Int)+(n:Int)+1:=by omega
    obtain⟨v,hv⟩:∃v,bt s (p+1+n)=v:=⟨_,rfl⟩;obtain⟨NM,hk⟩:∃NM,s.extract (p+1) (p+1+n)=NM:=⟨_,rfl⟩;have h6:=HR.o.lst.step hn (by omega);rw [hk,hv]at h6;have HN:=h_ h6;have hh:=h_ hlt;have hm:=HR.o.lst.cnt;have G2:Hid (∀u∈(#[.string NM,.int .i64 v]:Array Value).toList,u.oneCell'=true):=by simp [Hid,Value.oneCell']
    have G3:Hid (L.length+1≤maxLen∧(L.length+1)*24≤140737488355328):=by have:=HS.o;unfold maxLen Hid;omega
    have G4:Hid (0 <2):=by simp [Hid]
    obtain⟨U,hU⟩:∃U,U=L.flatMap ay.cells:=⟨_,rfl⟩;have h4:=HR.o.own;rw [←hU]at h4;have hf:=HR.o.below.size;have GO:Hid (af (wq.alloc (.cells #[.string NM,.int .i64 v] 99)).drew w.heap.size 2 (.slice A L.length c) L.length U):=(h4.alloc _).drew;have GB:Hid (w.heap.size≤(wq.alloc (.cells #[.string NM,.int .i64 v] 99)).drew.heap.size):=by simp [Hid];omega
    have GH:Hid ((wq.alloc (.cells #[.string NM,.int .i64 v] 99)).drew.heap[wq.heap.size]?=some (.cells #[.string NM,.int .i64 v] 99)):=A_ wq _;have GZ:Hid (Below w.heap.size w (wq.alloc (.cells #[.string NM,.int .i64 v] 99)).drew):=(HR.o.below.alloc hf _).drew;have HU:=h_ hU;have a1:IntKind.i64.wrap ((p:Int)+1)=(p:Int)+1:=by rw [IntKind.wrap_i64];omega
    have hw:IntKind.i64.wrap ((p:Int)+1+(n:Int))=(p:Int)+1+(n:Int):=by rw [IntKind.wrap_i64];omega
    have a2:((p:Int)+1).toNat=p+1:=by omega
    have hx:((p:Int)+1+(n:Int)).toNat=p+1+n:=by omega
    have a3:(0:Int)≤(p:Int)+1:=by omega
    have hu:(0:Int)≤(p:Int)+1+(n:Int):=by omega
    have a4:(p:Int)+1+(n:Int) < (s.size:Int):=by omega
    have a5:p+1+n <s.size:=by omega
    have a6:(p:Int)+1≤(p:Int)+1+(n:Int):=by omega
    have a7:(p:Int)+1+(n:Int)≤(s.size:Int):=by omega
    have a9:IntKind.i64.wrap v=v:=by rw [IntKind.wrap_i64,←hv];have:=bt_nonneg s (p+1+n);have:=bt_le s (p+1+n);omega
    clear h5 hU h4 h6 h2 hlt;generalize hNN:L.length=N at*;have he:=h_ hNN;clear hNN;go_upto_region 7 with fail
    go_region_law
     (refine oh (P:=Tryz.prog) (e:=99) (z:=.agg #[.string ByteArray.empty,.int .i64 0]) (size:=2) (bytes:=24) (base:=w.heap.size) rfl (.tmp 24) (.tmp 41) 95 rfl Tryz.underlying95 U9 rfl G4.o A N c U (by simp [go_sem]) GO.o GB.o wq.heap.size 1 #[.string NM,.int .i64 v] 99 (by simp [go_sem]) GH.o rfl G2.o G3.o.1 G3.o.2 ?_;intro A' c' w2 h8 h0 h9)
    all_goals
     have HF:Hid (RdI s w (p+n+2) (L++[⟨NM,v⟩]) (.slice A' (N+1) c') w2):=by refine {lst:=HN.o,own:=?_,below:=h0.below ler GZ.o};rw [V6,←HU.o,List.length_append,he.o];exact h8
     clear h8 h0 h9;go_wp2;go_roundw
     case rel=>exact⟨p+n+2,L++[(⟨NM,v⟩:ay)],by go_num,HF⟩
     case measure=>(have:=hh.o;simp [intOf];try omega)
  ·obtain rfl:p=s.size:=by omega
   obtain⟨h3,h0⟩:=HR.o.lst.last;have hj:Hid (∀a,A=some a→w.heap.size≤a.block):=h_ (fun a ha=>(HR.o.own.lt a.block (by rw [ha];rfl)).1);have h7:=h_ (HR.o.own.rows (enc:=ay.cells) (fun _=>rfl) (by decide));have HB:=h_ HR.o.below;have HC:=h_ (e0g A L.length c L wq h7.o);unfold Lw at HC;clear h5 hlt;by_cases hd:eu L=0
   ·have F:=h_ (Gr h3 hd);rw [W5 hd,h0,zh,hd]at HC;clear hd h3 h0;go_wp2_with(go_at_call 74;refine HC.o.mono ?_;rintro e w3 ⟨rfl,h1⟩);go_ret2;exact⟨A,L.length,c,by rw [F.o.1];rfl,by rw [F.o.2];exact(h7.o.below h1).more h1.size,HB.o.trans (h1.mono HB.o.size),hj.o⟩
   ·have F:=h_ (Gs h3 hd);have hq:(eu L !=0)=true:=bN hd;clear hd h3 h0;generalize eu L=E at*;generalize E7 L=DT at*;go_wp2_with(go_at_call 74;refine HC.o.mono ?_;rintro e w3 ⟨rfl,h1⟩);go_ret2;exact By F.o (HB.o.trans (h1.mono HB.o.size))
end
section
open Go.RowKit
structure mt(s:Nat)(seen:List Nat):Prop where
 lt:s <2^48
 bit:∀n,s.testBit n=decide (n∈seen)
theorem mt.nil:mt 0 []:=⟨by decide,fun n=>by simp⟩
theorem mt.mark{s:Nat}{seen:List Nat}(h:mt s seen){n:Nat}(hn:n <48):mt (s|||2^n) (n::seen):=by
 refine⟨Nat.or_lt_two_pow h.lt (Nat.pow_lt_pow_right (by decide) hn),fun k=>?_⟩;rw [Nat.testBit_or,h.bit,Nat.testBit_two_pow];by_cases hk:n=k
 ·subst hk;simp
 ·have:¬k=n:=fun e=>hk e.symm
  simp [hk,this]
theorem mt.div{s:Nat}{seen:List Nat}(h:mt s seen)(n:Nat):s/2^n%2=if n∈seen then 1 else 0:=by
 have:=h.bit n;rw [Nat.testBit_eq_decide_div_mod_eq]at this;by_cases hn:n∈seen
 ·rw [if_pos hn];simpa [hn]using this
 ·rw [if_neg hn];have h2:¬s/2^n%2=1:=by simpa [hn]using this
  omega
structure LiB where
 mb:Nat
 db:Nat
 sb:Nat
 ob:Nat
 vb:Nat
 lo:Nat
abbrev LiB.fn(B:LiB):Value:=.func (.func 39) #[] #[.pointer (some ⟨B.mb,0,none⟩),.pointer (some ⟨B.sb,0,none⟩),.pointer (some ⟨B.db,0,none⟩),.pointer (some ⟨B.ob,0,none⟩),.pointer (some ⟨B.vb,0,none⟩)]
structure FrL(sb ob:Nat)(A:Option Addr)(W:World)(A':Option Addr)(W':World):Prop where
 size:W.heap.size≤W'.heap.size
 block:∀k,k <W.heap.size→k≠ob→k≠sb→(∀a,A=some a→a.block≠k)→W'.heap[k]?=W.heap[k]?
 own:A'=A∨∀a,A'=some a→(∃a0,A=some a0∧a.block=a0.block)∨W.heap.size≤a.block
section
variable {sb ob:Nat} {W W' W2:World} {A A' A2:Option Addr}
theorem FrL.of_below(h:Below W.heap.size W W'):FrL sb ob A W A W':=⟨h.size,fun k hk _ _ _=>h.block k hk,.inl rfl⟩
theorem FrL.of_fri(h:FrI ob A W A' W'):FrL sb ob A W A' W':=⟨h.size,fun k hk h1 _ h2=>h.block k hk h1 h2,h.own⟩
theorem FrL.cell(n:Nat)(u:Value):FrL sb ob A W A (W.setCell ⟨sb,n,none⟩ u):=⟨by simp [World.setCell],fun k _ _ h _=>Below.heap_setCell _ _ _ _ h,.inl rfl⟩
theorem FrL.far(h:FrL sb ob A W A' W'){g:Nat}(hg:g <W.heap.size)(hf:∀a,A=some a→a.block≠g):∀a,A'=some a→a.block≠g:=fun a ha e=>by
 rcases h.own with h1|h1
 ·rw [h1]at ha;exact hf a ha e
 ·rcases h1 a ha with⟨a0,e0,e1⟩|h2
  ·exact hf a0 e0 (e1▸e)
  ·omega
theorem FrL.trans(h:FrL sb ob A W A' W')(h2:FrL sb ob A' W' A2 W2):FrL sb ob A W A2 W2:=by
 refine⟨Nat.le_trans h.size h2.size,fun k hk ho hs hf=>(h2.block k (Nat.lt_of_lt_of_le hk h.size) ho hs (h.far hk hf)).trans (h.block k hk ho hs hf),?_⟩;right;intro a ha;rcases h2.own with e|e
 ·rw [e]at ha;rcases h.own with e3|e3
  ·rw [e3]at ha;exact .inl ⟨a,ha,rfl⟩
  ·exact e3 a ha
 ·rcases e a ha with⟨a0,e0,e1⟩|e2
  ·rcases h.own with e3|e3
   ·rw [e3]at e0;exact .inl ⟨a0,e0,e1⟩
   ·rcases e3 a0 e0 with⟨a1,e4,e5⟩|e4
    ·exact .inl ⟨a1,e4,e1.trans e5⟩
    ·right;omega
  ·right;exact Nat.le_trans h.size e2
theorem FrL.ents{N n c:Nat}{AL:Option Addr}{L:List ay}(h:FrL sb ob A W A' W')(r:ab W N AL n c ay.cells 2 L)(hN:N≤W.heap.size)(ho:∀a,AL=some a→a.block≠ob)(hs:∀a,AL=some a→a.block≠sb)(hA:∀a,AL=some a→∀a6,A=some a6→a6.block≠a.block):ab W' N AL n c ay.cells 2 L:=
 r.far_keep fun g ⟨o,e,_⟩ hg=>h.block g (by omega) (ho _ e) (hs _ e) (fun a6 h6=>hA _ e a6 h6)
theorem FrL.apart{N ga o:Nat}(h:FrL sb ob A W A' W')(hga:ga <N)(hN:N≤W.heap.size)(hap:∀a,some (⟨ga,o,none⟩:Addr)=some a→∀a6,A=some a6→a6.block≠a.block):∀a,some (⟨ga,o,none⟩:Addr)=some a→∀a8,A'=some a8→a8.block≠a.block:=fun a ha a8 h8=>by injection ha with ha;subst ha;exact h.far (g:=ga) (by omega) (fun a6 h6=>hap _ rfl a6 h6) a8 h8
end
structure LiS(B:LiB)(tv ts tO:TypeId)(w0:World)(seen:List Nat)(items:List be)(A:Option Addr)(c:Nat)(W:World):Prop where
 it:ItI B.ob B.lo tO w0 items A c W
 sbox:∃s:Nat,W.heap[B.sb]?=some (.cells #[.int .i64 s] ts (0,0))∧mt s seen
 vbox:W.heap[B.vb]?=some (.cells #[B.fn] tv (0,0))
 los:B.lo≤B.sb
 so:B.sb≠B.ob
 vo:B.vb≠B.ob
 vs:B.vb≠B.sb
 az:∀a,A=some a→a.block≠B.sb
 av:∀a,A=some a→a.block≠B.vb
section
variable {B:LiB} {tv ts tO:TypeId} {w0 W W' W2:World} {seen:List Nat} {items:List be} {A:Option Addr} {c:Nat}
theorem LiS.slt(h:LiS B tv ts tO w0 seen items A c W):B.sb <W.heap.size:=by obtain⟨s,h1,_⟩:=h.sbox;exact ag h1
theorem LiS.go(h:LiS B tv ts tO w0 seen items A c W)(hb:Below W.heap.size W W'):LiS B tv ts tO w0 seen items A c W':=
 {h with it:=h.it.go hb,sbox:=by obtain⟨s,h1,h2⟩:=h.sbox;exact⟨s,ah h1 (ag h1) hb,h2⟩,vbox:=ah h.vbox (ag h.vbox) hb}
theorem LiS.own_ne(h:LiS B tv ts tO w0 seen items A c W):Value.ownBlock (.slice A items.length c)≠some B.sb∧Value.ownBlock (.slice A items.length c)≠some B.vb:=by
 refine⟨fun e=>?_,fun e=>?_⟩
 ·cases hA:A with
  |none=>rw [hA]at e;cases e
  |some a=>rw [hA]at e;injection e with e;exact h.az a hA e
 ·cases hA:A with
  |none=>rw [hA]at e;cases e
  |some a=>rw [hA]at e;injection e with e;exact h.av a hA e
theorem LiS.mark(h:LiS B tv ts tO w0 seen items A c W){s n:Nat}(hs:W.heap[B.sb]?=some (.cells #[.int .i64 s] ts (0,0)))(hS:mt s seen)(hn:n <48):LiS B tv ts tO w0 (n::seen) items A c (W.setCell ⟨B.sb,0,none⟩ (.int .i64 ((s|||2^n:Nat):Int))):=
 {h with
  it:= {below:=h.it.below.setCell (p:=⟨B.sb,0,none⟩) h.los _,obox:=cp h.it.obox (fun e=>h.so e.symm),own:=h.it.own.setOther (p:=⟨B.sb,0,none⟩) h.own_ne.1 _,lo:=h.it.lo}
  sbox:=⟨_,b9 (j:=0) hs,hS.mark hn⟩
  vbox:=cp h.vbox h.vs}
theorem LiS.add(h:LiS B tv ts tO w0 seen items A c W){x:be}{A3:Option Addr}{c3:Nat}(hown:af W2 (B.ob+1) 3 (.slice A3 (items.length+1) c3) (items.length+1) (items.flatMap be.cells++x.cells))(hl:ed W W2 (B.ob+1) (Value.ownBlock (.slice A items.length c)))(hn:Value.ownBlock (.slice A3 (items.length+1) c3)=Value.ownBlock (.slice A items.length c)∨∀k,Value.ownBlock (.slice A3 (items.length+1) c3)=some k→W.heap.size≤k):LiS B tv ts tO w0 seen (items++[x]) A3 c3 (W2.setCell ⟨B.ob,0,none⟩ (.slice A3 (items.length+1) c3))∧FrL B.sb B.ob A W A3 (W2.setCell ⟨B.ob,0,none⟩ (.slice A3 (items.length+1) c3)):=by obtain⟨h1,h2⟩:=h.it.add (x:=x) hown hl hn;obtain⟨n1,n2⟩:=h.own_ne;refine⟨{it:=h1,sbox:=?_,vbox:=cp (dw h.vbox hl n2) h.vo,los:=h.los,so:=h.so,vo:=h.vo,vs:=h.vs,az:=h2.far h.slt h.az,av:=h2.far (ag h.vbox) h.av},FrL.of_fri h2⟩;obtain⟨s,h3,h4⟩:=h.sbox;exact⟨s,cp (dw h3 hl n1) h.so,h4⟩
end
def pm(B:LiB)(tv ts tO:TypeId)(w0 W:World)(items:List be)(A:Option Addr)(r:Option (List Nat×List be))(e:Ending)(w':World):Prop:=
 (r=none∧e= .returned (.bool false)∧Below B.lo w0 w')∨(∃s l A' c',r=some (s,l)∧e= .returned (.bool true)∧LiS B tv ts tO w0 s (items++l) A' c' w'∧FrL B.sb B.ob A W A' w')
theorem X9:∀(args:Array Value) (W:World),(callFunc 39 args).run Tryz.prog W= .ok (.enter 39 args) W:=fun args W=>by kernel_rfl
end
end Go.Proofs.YtcldpfhpkbeaiadGreat
