/- A part of the proof of FsMounts. No condition of ours. -/
import Derived.Test.YtcldpfhpkbeaiadGreatFsMounts38
set_option maxRecDepth 20000
set_option maxHeartbeats 2000000
namespace Go.Proofs.YtcldpfhpkbeaiadGreat
open Go.RowKit
abbrev e8:Array Value:= #[.slice none 0 0,.slice none 0 0]
theorem jy:(Tryz.prog.info? 25).map (·.size)=some 2:=by kernel_rfl
theorem e0x{B n c:Nat}{b o:Nat}{xs:List ByteArray}{w:World}(h:ab w B (some ⟨b,o,none⟩) n c (fun z=>[.string z]) 1 xs):∀j u,(xs.map Value.string)[j]?=some u→w.cell? (Addr.add ⟨b,o,none⟩ j)=some u:=fun j u hu=>by
 rw [List.getElem?_map]at hu;cases hx:xs[j]? with
 |none=>rw [hx]at hu;cases hu
 |some x=>rw [hx]at hu;injection hu with hu;obtain⟨b',o',e,_,hc⟩:=h.one hx;injection e with e;injection e with e1 e2 _;subst e1;subst e2;rw [ms,←hu];exact hc
theorem q0w(xs:List ByteArray):xs.flatMap (fun z=>[Value.string z])=xs.map Value.string:=by
 induction xs with
 |nil=>rfl
 |cons x r ih=>simp [List.flatMap_cons,ih]
theorem n0u(f:FuncId)(caps:Array Value)(K:Nat→Bool)(A:Option Addr)(n c:Nat)(cs:List ByteArray)(A':Option Addr)(n' c':Nat)(ws:List ae)(w:World)(r:ab w w.heap.size A n c (fun z=>[.string z]) 1 cs)(r':ab w w.heap.size A' n' c' ae.cells 2 ws)(h0:0 <cs.length)(h128:cs.length≤128)(hws:ws.length≤400)(hall:∀p∈ws,0≤p.At∧p.At <cs.length)(hK:Ex f caps w.heap.size w ws.length K)(hcf:∀args W,(callFunc f args).run Tryz.prog W= .ok (.enter f args) W):Calls Tryz.prog 93 #[.agg #[.slice A n c,.slice A' n' c'],.func (.func f) #[] caps] w fun e w'=>∃D d,e= .returned (.agg #[.slice D cs.length d,.slice none 0 0])∧af w' w.heap.size 1 (.slice D cs.length d) cs.length ((kp K cs ws).map Value.string)∧Below w.heap.size w w':=by
 have hP:=r.len;obtain rfl:=hP;have hA:=r'.len;obtain rfl:=hA;obtain⟨b0,o0,rfl,hZ⟩:=ur r h0;obtain⟨wa,h7⟩:∃wa,wa=(w.alloc (.cells #[.slice (some ⟨b0,o0,none⟩) cs.length c,.slice A' ws.length c'] 25)).alloc (.cells e8 25):=⟨_,rfl⟩;have hL:wa.heap.size=w.heap.size+2:=by rw [h7];simp
 have hk:Below w.heap.size w wa:=by rw [h7];exact(br.alloc ler _).alloc (by simp) _
 have hq:wa.heap[w.heap.size+1]?=some (.cells e8 25 (0,0)):=by rw [h7];have:=A_ (w.alloc (.cells #[.slice (some ⟨b0,o0,none⟩) cs.length c,.slice A' ws.length c'] 25)) (.cells e8 25);rw [show(w.alloc (.cells #[.slice (some ⟨b0,o0,none⟩) cs.length c,.slice A' ws.length c'] 25)).heap.size=w.heap.size+1 by simp]at this;exact this
 have hs:wa.heap[w.heap.size]?=some (.cells #[.slice (some ⟨b0,o0,none⟩) cs.length c,.slice A' ws.length c'] 25 (0,0)):=by rw [h7];exact(heap_alloc_old _ _ (by simp)).trans (A_ w _)
 have HN:=h_ (e0x (r.below hk));have hM:Hid ((cs.map Value.string).length=cs.length*1):=by simp [Hid]
 have HM:Hid (∀u∈cs.map Value.string,u.oneCell'=true):=fun u hu=>by obtain⟨y,_,rfl⟩:=List.mem_map.1 hu;rfl
 have hF:Hid (af wa (w.heap.size+2) 1 (.slice none 0 0) 0 []):=af.nil _ _ _;have hr:Hid (w.heap.size+2≤wa.heap.size):=by simp only [Hid];omega
 have hD:=h_ hq;have hJ:=h_ hs;have hN:=h_ h7;have hv:=h_ hk;have HK:=h_ hK;have hy:=h_ hall;have R':=h_ r';generalize hU:cs.map Value.string=U at*;have HU:=h_ hU;clear h7 hL hk hq hs hK hall r r' hU;go_enter Tryz.func93,Tryz.ntmps93;go_wp2_with(at_builtin;rw [←hN.o];refine Ba rfl rfl Tryz.underlying22 qf rfl Nat.one_pos hF.o rfl hr.o rfl U hM.o HN.o HM.o ?_ ?_ ?_;(unfold maxLen;omega);omega;intro A1 c1 w1 hj hc hI;have hh:=dw hJ.o hc (fun e=>by cases e);have hm:=dw hD.o hc (fun e=>by cases e);have hw:=rc1 hh;have hV:w.heap.size <w1.heap.size:=ag hh);rw [Nat.zero_add,List.nil_append]at hj;have hn:=h_ hj;have hS:=h_ hm;have hT:w.heap.size+2≤w1.heap.size:=Nat.le_trans hr.o hc.size;have hG:=h_ (hc.below (by omega) hv.o);clear hj hc hI hh hm hw
 obtain⟨g,h3,hB,hX,hW⟩:∃g h3,A1=some ⟨g,h3,none⟩∧w.heap.size+2≤g∧g <w1.heap.size:=by
  rcases hn.o.2 with⟨_,e⟩|⟨g,h3,cap,e,h1,h2,_⟩
  ·omega
  ·injection e with e _ _;exact⟨g,h3,e,h1,h2⟩
 subst hB;go_loopw [6,7,15] (fun _ _ v15 wr=>∃i:Nat,i≤ws.length∧v15= .int .i64 i∧af wr (w.heap.size+2) 1 (.slice (some ⟨g,h3,none⟩) cs.length c1) cs.length ((mj K cs ws i).map Value.string)∧wr.heap[w1.heap.size]?=some (.cells #[.slice (some ⟨g,h3,none⟩) cs.length c1,.slice none 0 0] 25 (0,0))∧wr.heap[w.heap.size+1]?=some (.cells e8 25 (0,0))∧Below w.heap.size w wr∧w1.heap.size <wr.heap.size) (fun _ _ v15 _=>ws.length- (intOf v15).toNat)
 case atStart=>exact⟨0,zl,rfl,by rw [n0w,HU.o];exact hn.o.alloc _,A_ w1 _,cq hS.o _,hG.o.alloc (by omega) _,by simp⟩
 case round=>
  obtain⟨i,hi,rfl,h9,ha,hd,hb,hz⟩:=hrel;by_cases hlt:i <ws.length
  ·obtain⟨pa,pt,e1⟩:∃pa pt,ws[i]?=some (⟨pa,pt⟩:ae):=⟨ws[i].At,ws[i].Text,gE hlt⟩;obtain⟨b,o,rfl,g0,ht,hE⟩:=Gv (R'.o.below hb) e1;simp only at ht hE;have hf:=hy.o _ (List.mem_iff_getElem?.2 ⟨i,e1⟩);simp only at hf;obtain⟨j,rfl⟩:∃j:Nat,pa=j:=⟨pa.toNat,by omega⟩;have i1:(i:Int) < (ws.length:Int):=by omega
   have he:=hb.size;have hp:Hid (Calls Tryz.prog f (#[.int .i64 (i:Int)]++caps) (wr.alloc (.cells #[.int .i64 (j:Int),.string pt] 76)) fun e w'=>e= .returned (.bool (K i))∧Below (wr.alloc (.cells #[.int .i64 (j:Int),.string pt] 76)).heap.size (wr.alloc (.cells #[.int .i64 (j:Int),.string pt] 76)) w'):=HK.o i _ hlt (hb.alloc he _);have h6:=h_ h9;have hg:=h_ ha;have h8:=h_ hd;have HB:=h_ hb;have hQ:=h_ (fun h=>n0y (K:=K) (cs:=cs) e1 h);have hC:=h_ (fun h=>n0x (K:=K) (cs:=cs) (j:=j) e1 h rfl (by omega));have hY:(j:Int) < (cs.length:Int):=hf.2;generalize mj K cs ws i=L at*;clear h9 ha hd hb e1 hf;generalize hx:K i=x at*;have HX:=h_ hx;clear hx;cases x
   ·go_wp2_with(refine hp.o.mono ?_;rintro e w2 ⟨rfl,h4⟩;obtain⟨k0,k1,kz⟩:=Cy h4;have h5:=h_ h4;clear h4);go_roundw
    case rel=>exact⟨i+1,by omega,by go_num,by rw [hQ.o trivial];exact(h6.o.alloc _).fresh_below h5.o,ah (cq hg.o _) (by simp;omega) h5.o,ah (cq h8.o _) (by simp;omega) h5.o,(HB.o.alloc he _).trans (h5.o.mono (by simp;omega)),by omega⟩
    case measure=>(simp [intOf];try omega)
   ·have HQ:Hid (∀w2,Below (wr.alloc (.cells #[.int .i64 (j:Int),.string pt] 76)).heap.size (wr.alloc (.cells #[.int .i64 (j:Int),.string pt] 76)) w2→(∃u,w2.cell? ⟨g,h3+j,none⟩=some u)∧w2.frozen? ⟨g,h3+j,none⟩=false∧w2.cell? ⟨w1.heap.size,0,none⟩=some (.slice (some ⟨g,h3,none⟩) cs.length c1)):=fun w2 h4=>by
     have ho:=(h6.o.alloc (.cells #[.int .i64 (j:Int),.string pt] 76)).fresh_below h4;have hH:j <L.length:=by have:=h6.o.1;rw [List.length_map]at this;omega
     obtain⟨_,_,_,e,_,_,c1,f1⟩:=ho.at_ (j:=j) (u:=.string L[j]) (by rw [List.getElem?_map,gE hH];rfl);injection e with e _ _;injection e with e;injection e with e1 e2 _;subst e1;subst e2;exact⟨⟨_,c1⟩,f1,aj (ah (cq hg.o _) (by simp;omega) h4) 0⟩
    go_wp2_with(refine hp.o.mono ?_;rintro e w2 ⟨rfl,h4⟩;obtain⟨k0,k1,kz⟩:=Cy h4;obtain⟨⟨u,q0⟩,q1,q2⟩:=HQ.o w2 h4;have h5:=h_ h4;clear h4);go_roundw
    case rel=>exact⟨i+1,by omega,by go_num,by rw [hC.o trivial,List.map_set];exact((h6.o.alloc _).fresh_below h5.o).set j (.string pt),cp (ah (cq hg.o _) (by simp;omega) h5.o) (show w1.heap.size≠g by omega),cp (ah (cq h8.o _) (by simp;omega) h5.o) (show w.heap.size+1≠g by omega),((HB.o.alloc he _).trans (h5.o.mono (by simp;omega))).setCell (show w.heap.size≤g by omega) _,by simp [World.setCell];omega⟩
    case measure=>(simp [intOf];try omega)
  ·obtain rfl:i=ws.length:=by omega
   have i1:¬(ws.length:Int) < (ws.length:Int):=by omega
   rw [n0z]at h9;have m0:=rc0 ha;have m1:=rc1 ha;have h6:=h_ h9;have h8:=h_ hd;have HB:=h_ hb;have hR:Hid ((#[.slice (some ⟨g,h3,none⟩) cs.length c1,.slice none 0 0]:Array Value).all (·.oneCell')=true):=by simp [Hid,Value.oneCell']
   clear h9 ha hd hb;go_wp2_with(refine wpList_store_rowTo rfl _ _ _ rfl rfl (w.heap.size+1) #[.slice (some ⟨g,h3,none⟩) cs.length c1,.slice none 0 0] rfl rfl 25 e8 h8.o jy rfl hR.o ?_);refine bodyPost_ret (results_cell_row rfl _ _ (w.heap.size+1) _ #[.slice (some ⟨g,h3,none⟩) cs.length c1,.slice none 0 0] (0,0) _ rfl (bh h8.o) Tryz.underlying25 rfl jy) rfl ?_;exact⟨_,_,rfl,(h6.o.setRow (by omega) _).more (by omega),below_setRow HB.o (by omega) _⟩
theorem D7:(Tryz.prog.info? 76).map (fun i=>(i.zero,i.size,i.bytes))=some (some (.agg #[.int .i64 0,.string ⟨#[]⟩]),2,24):=by kernel_rfl
theorem c0j{w:World}{B n c:Nat}{A:Option Addr}{xs:List ByteArray}(r:ab w B A n c (fun z=>[.string z]) 1 xs):Src w A n (xs.map Value.string):=by rw [←q0w];exact O8 (enc:=fun z=>[Value.string z]) (k:=1) (fun _=>rfl) (by decide) r
theorem c0k{w:World}{B n c:Nat}{A:Option Addr}{xs:List ae}(r:ab w B A n c ae.cells 2 xs):Src w A n (xs.flatMap ae.cells):=O8 (enc:=ae.cells) (k:=2) (fun _=>rfl) (by decide) r
theorem h0b(ws:List ae):∀u∈ws.flatMap ae.cells,u.oneCell'=true:=fun u hu=>by obtain⟨y,_,hy⟩:=List.mem_flatMap.1 hu;simp [ae.cells]at hy;rcases hy with rfl|rfl<;>rfl
theorem h0c(ws:List ae):(ws.flatMap ae.cells).length=ws.length*2:=ww (enc:=ae.cells) (k:=2) (fun _=>rfl) ws
theorem j0k{w:World}{base n c:Nat}{A:Option Addr}{xs:List ae}(h:af w base 2 (.slice A n c) n (xs.flatMap ae.cells)):ab w w.heap.size A n c ae.cells 2 xs:=h.rows (enc:=ae.cells) (k:=2) (fun _=>rfl) (by decide)
def Lq(cs:List ByteArray)(ws:List ae)(w:World)(e:Ending)(w':World):Prop:=∃D d D' d',e= .returned (.agg #[.slice D cs.length d,.slice D' ws.length d'])∧af w' w.heap.size 1 (.slice D cs.length d) cs.length (cs.map Value.string)∧af w' w.heap.size 2 (.slice D' ws.length d') ws.length (ws.flatMap ae.cells)∧gq (.slice D cs.length d) (.slice D' ws.length d')∧Below w.heap.size w w'
theorem n0g(A:Option Addr)(n c:Nat)(cs:List ByteArray)(A':Option Addr)(n' c':Nat)(ws:List ae)(w:World)(r:ab w w.heap.size A n c (fun z=>[.string z]) 1 cs)(r':ab w w.heap.size A' n' c' ae.cells 2 ws)(hs:n*16≤140737488355328)(hs':n'*24≤140737488355328):Calls Tryz.prog 92 #[.agg #[.slice A n c,.slice A' n' c']] w (Lq cs ws w):=by
 have hp:=r.len;subst hp;have hg:=r'.len;subst hg;obtain⟨wa,h2⟩:∃wa,wa=(w.alloc (.cells #[.slice A cs.length c,.slice A' ws.length c'] 25)).alloc (.cells e8 25):=⟨_,rfl⟩;have ha:wa.heap.size=w.heap.size+2:=by rw [h2];simp
 have he:Below w.heap.size w wa:=by rw [h2];exact(br.alloc ler _).alloc (by simp) _
 have hc:wa.heap[w.heap.size+1]?=some (.cells e8 25 (0,0)):=by rw [h2];have:=A_ (w.alloc (.cells #[.slice A cs.length c,.slice A' ws.length c'] 25)) (.cells e8 25);rw [show(w.alloc (.cells #[.slice A cs.length c,.slice A' ws.length c'] 25)).heap.size=w.heap.size+1 by simp]at this;exact this
 have h9:wa.heap[w.heap.size]?=some (.cells #[.slice A cs.length c,.slice A' ws.length c'] 25 (0,0)):=by rw [h2];exact(heap_alloc_old _ _ (by simp)).trans (A_ w _)
 have N1:Hid (∀W,Below w.heap.size w W→Src W A cs.length (cs.map Value.string)):=fun W h=>c0j (r.below h)
 have N2:Hid (∀W,Below w.heap.size w W→Src W A' ws.length (ws.flatMap ae.cells)):=fun W h=>c0k (r'.below h)
 have L1:Hid ((cs.map Value.string).length=cs.length*1):=by simp [Hid]
 have L2:Hid ((ws.flatMap ae.cells).length=ws.length*2):=h0c ws;have M1:Hid (∀u∈cs.map Value.string,u.oneCell'=true):=fun u hu=>by obtain⟨y,_,rfl⟩:=List.mem_map.1 hu;rfl
 have M2:Hid (∀u∈ws.flatMap ae.cells,u.oneCell'=true):=h0b ws;have O1:Hid (∀W,af W (w.heap.size+2) 1 (.slice none 0 0) 0 []):=fun W=>af.nil _ _ _
 have O2:Hid (∀W,af W (w.heap.size+2) 2 (.slice none 0 0) 0 []):=fun W=>af.nil _ _ _
 have HS:Hid (wa.cell? ⟨w.heap.size,0,none⟩=some (.slice A cs.length c)∧wa.cell? ⟨w.heap.size,1,none⟩=some (.slice A' ws.length c')):=⟨aj h9 0,aj h9 1⟩;have hh:=h_ hc;have hn:=h_ h2;have h7:=h_ he;have hd:=h_ ha;have G4:Hid (0 <2∧0 <1):=by simp [Hid]
 have G3:Hid (0+cs.length≤maxLen∧(0+cs.length)*16≤140737488355328∧0+ws.length≤maxLen∧(0+ws.length)*24≤140737488355328):=by have:=r.le;have:=r.top;have:=r'.le;have:=r'.top;simp only [Hid];exact⟨by omega,by omega,by omega,by omega⟩
 generalize hUU:cs.map Value.string=U at*;generalize hUU':ws.flatMap ae.cells=U' at*;have hf:=h_ hUU;have hj:=h_ hUU';clear hUU hUU' hs hs';clear r r' h2 ha he hc h9;go_enter Tryz.func92,Tryz.ntmps92;go_wp2;rw [←hn.o];have hs:=HS.o
 go_region_held_law (fun W=>W.cell? ⟨w.heap.size,0,none⟩=some (.slice A cs.length c)∧W.cell? ⟨w.heap.size,1,none⟩=some (.slice A' ws.length c'))
  (first|assumption|exact J4 (by assumption)|exact oy (W:=wa.drew) (fun e=>by cases e) HS.o h0|exact oy (W:=w1) (fun e=>by cases e) (oy (W:=wa.drew) (fun e=>by cases e) HS.o h0) h4|exact Tv (by omega) (oy (W:=w1) (fun e=>by cases e) (oy (W:=wa.drew) (fun e=>by cases e) HS.o h0) h4))
  (first
    |(refine O6 (P:=Tryz.prog) (e:=9) (z:=.string ⟨#[]⟩) (size:=1) (bytes:=16) (base:=w.heap.size+2) rfl (.const (.slice none 0 0)) (.tmp 4) 22 rfl Tryz.underlying22 qf rfl G4.o.2 none 0 0 [] rfl (O1.o _) (show w.heap.size+2≤wa.drew.heap.size from Nat.le_of_eq hd.o.symm) A cs.length c U rfl L1.o (N1.o _ h7.o.drew) M1.o G3.o.1 G3.o.2.1 ?_;intro A1 c1 w1 h6 h0 hk)
    |(refine O6 (P:=Tryz.prog) (e:=76) (z:=.agg #[.int .i64 0,.string ⟨#[]⟩]) (size:=2) (bytes:=24) (base:=w.heap.size+2) rfl (.const (.slice none 0 0)) (.tmp 7) 23 rfl Tryz.underlying23 D7 rfl G4.o.1 none 0 0 [] rfl (O2.o _) (show w.heap.size+2≤w1.heap.size from Nat.le_trans (Nat.le_of_eq hd.o.symm) h0.size) A' ws.length c' U' rfl L2.o (N2.o _ (h0.below (by omega) h7.o.drew)) M2.o G3.o.2.2.1 G3.o.2.2.2 ?_;intro A2 c2 w2 h5 h4 h8;have h3:=dw (dw (w:=wa.drew) hh.o h0 (fun e=>by cases e)) h4 (fun e=>by cases e);have v0:=rc0 h3;have v1:=rc1 h3;have v2:=ak h3 0;have v3:=ak h3 1))
 all_goals
  rename_i hHeld;clear hHeld hs;simp only [Nat.zero_add,List.nil_append]at h6 h5 h8;have hm:=b9 (j:=1) (v:=.slice A2 ws.length c2) (b9 (j:=0) (v:=.slice A1 cs.length c1) h3);have HM:Hid (((w2.setCell ⟨w.heap.size+1,0,none⟩ (.slice A1 cs.length c1)).setCell ⟨w.heap.size+1,1,none⟩ (.slice A2 ws.length c2)).heap[w.heap.size+1]?=some (.cells #[.slice A1 cs.length c1,.slice A2 ws.length c2] 25 (0,0))):=hm;have q1:=h6.apart h4 (gq.nil _ _ _);have q2:af ((w2.setCell ⟨w.heap.size+1,0,none⟩ (.slice A1 cs.length c1)).setCell ⟨w.heap.size+1,1,none⟩ (.slice A2 ws.length c2)) (w.heap.size+2) 1 (.slice A1 cs.length c1) cs.length U:=(q1.setOther (fun e=>by have e2:w.heap.size+2≤w.heap.size+1:=(q1.lt _ e).1;omega) _).setOther (fun e=>by have e2:w.heap.size+2≤w.heap.size+1:=(q1.lt _ e).1;omega) _;have q3:af ((w2.setCell ⟨w.heap.size+1,0,none⟩ (.slice A1 cs.length c1)).setCell ⟨w.heap.size+1,1,none⟩ (.slice A2 ws.length c2)) (w.heap.size+2) 2 (.slice A2 ws.length c2) ws.length U':=(h5.setOther (fun e=>by have e2:w.heap.size+2≤w.heap.size+1:=(h5.lt _ e).1;omega) _).setOther (fun e=>by have e2:w.heap.size+2≤w.heap.size+1:=(h5.lt _ e).1;omega) _
  have q4:gq (.slice A1 cs.length c1) (.slice A2 ws.length c2):=fun g e e'=>by
   have h1:=(h6.lt g e).2;rcases h8 with h|h
   ·rw [h]at e';cases e'
   ·have:=h g e';omega
  have q5:Below w.heap.size w ((w2.setCell ⟨w.heap.size+1,0,none⟩ (.slice A1 cs.length c1)).setCell ⟨w.heap.size+1,1,none⟩ (.slice A2 ws.length c2)):=((h4.below (by omega) (h0.below (by omega) h7.o.drew)).setCell (show w.heap.size≤w.heap.size+1 by omega) _).setCell (show w.heap.size≤w.heap.size+1 by omega) _;have Q2:=h_ q2;have Q3:=h_ q3;have Q4:=h_ q4;have Q5:=h_ q5;clear hm q1 q2 q3 q4 q5 h6 h5 h0 h4 hk h8 h3 v0 v1 v2 v3;generalize(w2.setCell ⟨w.heap.size+1,0,none⟩ (.slice A1 cs.length c1)).setCell ⟨w.heap.size+1,1,none⟩ (.slice A2 ws.length c2)=w9 at*;go_wp2;refine bodyPost_ret (results_cell_row rfl _ _ (w.heap.size+1) _ #[.slice A1 cs.length c1,.slice A2 ws.length c2] (0,0) _ rfl HM.o Tryz.underlying25 rfl jy) rfl ?_;exact⟨A1,c1,A2,c2,rfl,by rw [hf.o];exact Q2.o.more (by omega),by rw [hj.o];exact Q3.o.more (by omega),Q4.o,Q5.o⟩
theorem Sg(w:World)(B:Nat):ab w B none 0 0 (fun z=>[.string z]) 1 ([]:List ByteArray):=⟨rfl,Nat.le_refl _,zl,fun i x h=>by simp at h⟩
theorem Ig(w:World)(B:Nat):ab w B none 0 0 ae.cells 2 ([]:List ae):=⟨rfl,Nat.le_refl _,zl,fun i x h=>by simp at h⟩
theorem I7{w:World}{base size n q d B:Nat}{D:Option Addr}{xs:List Value}(h:af w base size (.slice D q d) n xs)(hB:B≤base):∀a,D=some a→B≤a.block:=fun a ha=>Nat.le_trans hB (h.lt a.block (by rw [ha];rfl)).1
def Lx(E:Int)(X:List ByteArray)(Y:List ae)(w:World)(e:Ending)(w':World):Prop:=∃D q d D' q' d',e= .returned (.tuple #[.agg #[.slice D q d,.slice D' q' d'],.int .i64 E])∧ab w' w'.heap.size D q d (fun z=>[.string z]) 1 X∧ab w' w'.heap.size D' q' d' ae.cells 2 Y∧Below w.heap.size w w'∧(∀a,D=some a→w.heap.size≤a.block)∧(∀a,D'=some a→w.heap.size≤a.block)
theorem Kc{E k:Int}{X:List ByteArray}{Y:List ae}{w w':World}(h:E=k)(h2:X=[]∧Y=[])(hb:Below w.heap.size w w'):Lx E X Y w (.returned (.tuple #[.agg e8,.int .i64 k])) w':=
 ⟨none,0,0,none,0,0,by rw [h],by rw [h2.1];exact Sg _ _,by rw [h2.2];exact Ig _ _,hb,(fun a ha=>by cases ha),(fun a ha=>by cases ha)⟩
theorem s0r{E:Int}{X X':List ByteArray}{Y Y':List ae}{w w':World}{D D':Option Addr}{q d q' d':Nat}(h:E=0)(h1:X=X')(h2:Y=Y')(r:ab w' w'.heap.size D q d (fun z=>[.string z]) 1 X')(r':ab w' w'.heap.size D' q' d' ae.cells 2 Y')(f1:∀a,D=some a→w.heap.size≤a.block)(f2:∀a,D'=some a→w.heap.size≤a.block)(hb:Below w.heap.size w w'):Lx E X Y w (.returned (.tuple #[.agg #[.slice D q d,.slice D' q' d'],.int .i64 0])) w':=
 ⟨D,q,d,D',q',d',by rw [h],by rw [h1];exact r,by rw [h2];exact r',hb,f1,f2⟩
theorem s0h(A:Option Addr)(n c:Nat)(cs:List ByteArray)(A':Option Addr)(n' c':Nat)(ws:List ae)(a:Int)(t:ByteArray)(w:World)(r:ab w w.heap.size A n c (fun z=>[.string z]) 1 cs)(r':ab w w.heap.size A' n' c' ae.cells 2 ws):Calls Tryz.prog 60 #[.agg #[.slice A n c,.slice A' n' c'],.int .i64 a,.string t] w (Lx (wrE cs ws a t) (wrX cs ws a t) (wrY cs ws a t) w):=by
 have hL:=r.len;subst hL;have hJ:=r'.len;subst hJ;obtain⟨wa,ha⟩:∃wa,wa=(w.alloc (.cells #[.slice A cs.length c,.slice A' ws.length c'] 25)).alloc (.cells e8 25):=⟨_,rfl⟩;have hB:wa.heap.size=w.heap.size+2:=by rw [ha];simp
 have hm:Below w.heap.size w wa:=by rw [ha];exact(br.alloc ler _).alloc (by simp) _
 have hD:wa.heap[w.heap.size+1]?=some (.cells e8 25 (0,0)):=by rw [ha];have:=A_ (w.alloc (.cells #[.slice A cs.length c,.slice A' ws.length c'] 25)) (.cells e8 25);rw [show(w.alloc (.cells #[.slice A cs.length c,.slice A' ws.length c'] 25)).heap.size=w.heap.size+1 by simp]at this;exact this
 have hE:wa.heap[w.heap.size]?=some (.cells #[.slice A cs.length c,.slice A' ws.length c'] 25 (0,0)):=by rw [ha];exact(heap_alloc_old _ _ (by simp)).trans (A_ w _)
 have hs:w.heap.size≤wa.heap.size:=by omega
 have RA:=h_ ((r.below hm).more hs);have hI:=h_ ((r'.below hm).more hs);have HC:=h_ (xe A cs.length c cs A' ws.length c' ws wa RA.o hI.o);have HP:=h_ (fun W=>Vy (cs.length:Int) a t W);have hn:Hid ((e8:Array Value).all (·.oneCell')=true):=by simp [Hid,Value.oneCell']
 have hH:Hid (∀(A A':Option Addr) (n c n' c':Nat),((#[.slice A n c,.slice A' n' c']:Array Value).all (·.oneCell'))=true):=fun _ _ _ _ _ _=>by simp [Value.oneCell']
 have h8:=h_ hD;have hc:=h_ hE;have hk:=h_ ha;have h7:=h_ hm;have hP:=h_ hB;have hN:ws.length≤9223372036854775807:=by have h1:=r'.le;have h2:=r'.top;unfold maxLen at h2;omega
 clear r r' ha hB hm hD hE hs;by_cases hd:au cs ws=0
 ·obtain⟨z1,z2,_,_,z3⟩:=jz hd;have hx:Hid (∀W,Below wa.heap.size wa W→Calls Tryz.prog 92 #[.agg #[.slice A cs.length c,.slice A' ws.length c']] W (Lq cs ws W)):=fun W h=>n0g A _ c cs A' _ c' ws W ((RA.o.below h).more h.size) ((hI.o.below h).more h.size) (by omega) (by omega)
  unfold Lq at hx;rw [hd]at HC;by_cases hp:ey cs.length a t.size=0
  ·rw [hp]at HP;by_cases h4:ws.length=400
   ·have F:=h_ (Zm hd hp h4);have F2:=h_ (Fg F.o (by decide));have i4:((ws.length:Int)==400)=true:=by simp;omega
    have i5:decide ((ws.length:Int)=400)=true:=by simp;omega
    have H4:=h_ h4;clear hp hd h4 z1 z2 z3;go_enter Tryz.func60,Tryz.ntmps60
    go_wp2_with(first
     |(go_at_call 9;rw [←hk.o];refine HC.o.mono ?_;rintro e w1 ⟨rfl,h0⟩;have h5:=ah hc.o (ag hc.o) h0;have q0:=rc0 h5;have q1:=rc1 h5;have q8:=ag h5;have h6:=h_ (ah h8.o (ag h8.o) h0);have h9:=h_ h0;clear h5 h0)
     |(go_at_call 22;refine(HP.o _).mono ?_;rintro e w2 ⟨rfl,rfl⟩)
     |(refine wpList_store_rowTo rfl _ _ _ rfl rfl (w.heap.size+1) e8 rfl rfl 25 e8 h6.o jy rfl hn.o ?_))
    refine bodyPost_ret (cv rfl _ _ (w.heap.size+1) _ e8 (0,0) _ rfl (bh h6.o) Tryz.underlying25 rfl jy) rfl ?_;exact Kc F.o F2.o (below_setRow (h7.o.trans (h9.o.mono h7.o.size)) (by omega) _)
   ·have F:=h_ (M8 hd hp h4);have F2:=h_ (Zj F.o);have i4:((ws.length:Int)==400)=false:=by simp;omega
    have G2:Hid (∀u∈(#[.int .i64 a,.string t]:Array Value).toList,u.oneCell'=true):=by simp [Hid,Value.oneCell']
    have G3:Hid (ws.length+1≤maxLen∧(ws.length+1)*24≤140737488355328):=by unfold maxLen Hid;omega
    have G4:Hid (0 <2):=by simp [Hid]
    clear hp hd z1 z2 z3 h4;go_enter Tryz.func60,Tryz.ntmps60
    go_wp2_with(first
     |(go_at_call 9;rw [←hk.o];refine HC.o.mono ?_;rintro e w1 ⟨rfl,h0⟩;have h5:=ah hc.o (ag hc.o) h0;have q0:=rc0 h5;have q1:=rc1 h5;have q8:=ag h5;have h6:=h_ (ah h8.o (ag h8.o) h0);have h9:=h_ h0;clear h5 h0)
     |(go_at_call 22;refine(HP.o _).mono ?_;rintro e w2 ⟨rfl,rfl⟩)
     |(refine wpList_store_rowTo rfl _ _ _ rfl rfl (w.heap.size+1) #[.slice D cs.length d,.slice A3 (ws.length+1) c3] rfl rfl 25 e8 R5.o jy rfl (hH.o _ _ _ _ _ _) ?_)
     |(go_at_call 92;refine(hx.o _ h9.o).mono ?_;rintro e w3 ⟨D,d,D',d',rfl,o1,o2,ap,hr⟩;have hG:=h_ o1;have he:=h_ o2;have AP:=h_ ap;have hg:=h_ hr;have ht:=h_ (ah h6.o (ag h6.o) hr);clear o1 o2 ap hr)
     |(refine wpList_store_rowTo rfl _ _ _ rfl rfl w3.heap.size #[.slice D cs.length d,.slice D' ws.length d'] rfl rfl 25 e8 (A_ w3 _) jy rfl (hH.o D D' _ d _ d') ?_;obtain⟨w4,hh⟩:∃w4,(w3.alloc (.cells e8 25)).setRow w3.heap.size #[.slice D cs.length d,.slice D' ws.length d']=w4:=⟨_,rfl⟩;rw [hh];have hq:w4.heap[w3.heap.size]?=some (.cells #[.slice D cs.length d,.slice D' ws.length d'] 25 (0,0)):=(by rw [←hh];exact bh (A_ w3 _));have hv:Below w3.heap.size w3 w4:=(by rw [←hh];exact below_setRow (br.alloc ler _) ler _);have hf:=h_ hv;have hC:=h_ hq;have y1:=rc1 hq;clear hh hq hv)
     |(at_builtin;refine dx (size:=2) (bytes:=24) (base:=w1.heap.size) (news:= #[.int .i64 a,.string t]) rfl rfl Tryz.underlying23 D7 rfl G4.o (he.o.fresh_below hf.o) rfl (by have h1:=he.o;have h2:=hg.o.size;have h3:=hf.o.size;omega) rfl rfl rfl G2.o G3.o.1 G3.o.2 ?_;intro A3 c3 w5 hF hj hA;have hz:Value.ownBlock (.slice D' ws.length d')≠some w3.heap.size:=(fun e=>Nat.lt_irrefl _ (he.o.lt _ e).2);have hw:Value.ownBlock (.slice D' ws.length d')≠some (w.heap.size+1):=(fun e=>by have:=(he.o.lt _ e).1;have h2:w.heap.size+1 <w1.heap.size:=ag h6.o;omega);have r5:=dw hC.o hj hz;have k0:=b9 (j:=1) (v:=.slice A3 (ws.length+1) c3) r5;have k1:=rc1 r5;have k2:=ak r5 1;have k3:=rc0 k0;have k4:=rc1 k0;have R5:Hid ((w5.setCell ⟨w3.heap.size,1,none⟩ (.slice A3 (ws.length+1) c3)).heap[w.heap.size+1]?=some (.cells e8 25 (0,0))):=cp (dw (ah ht.o (ag ht.o) hf.o) hj hw) (show w.heap.size+1≠w3.heap.size by have h1:=ag h6.o;have h2:=hg.o.size;omega);have hK:=h_ hF;have hy:=h_ hj;have hM:=h_ hA;clear r5 k0 hF hj hA hz hw))
    refine bodyPost_ret (cv rfl _ _ (w.heap.size+1) _ #[.slice D cs.length d,.slice A3 (ws.length+1) c3] (0,0) _ rfl (bh R5.o) Tryz.underlying25 rfl jy) rfl ?_;have hu:w.heap.size+1 <w1.heap.size:=ag h6.o;have hQ:w1.heap.size≤w3.heap.size:=hg.o.size;have o1:=(((hG.o.fresh_below hf.o).apart hy.o (gq.symm AP.o)).setOther (p:=⟨w3.heap.size,1,none⟩) (fun e=>Nat.lt_irrefl _ (hG.o.lt _ e).2) (.slice A3 (ws.length+1) c3)).setRow hu #[.slice D cs.length d,.slice A3 (ws.length+1) c3]
    have o2:=(hK.o.setOther (p:=⟨w3.heap.size,1,none⟩) (fun e=>by
 rcases hM.o with h|h
 ·rw [h]at e;exact Nat.lt_irrefl _ (he.o.lt _ e).2
 ·have:=h _ e;have h4:=ag hC.o;simp only at this;omega) (.slice A3 (ws.length+1) c3)).setRow hu #[.slice D cs.length d,.slice A3 (ws.length+1) c3]
    refine s0r F.o F2.o.1 F2.o.2 (C7 o1) (j0k (base:=w1.heap.size) (xs:=ws++[⟨a,t⟩]) ?_) (I7 o1 (by omega)) (I7 o2 (by omega)) ?_
    ·rw [List.flatMap_append];have e:(ws++[(⟨a,t⟩:ae)]).length=ws.length+1:=by simp
     exact o2
    ·exact below_setRow ((hy.o.below (show w.heap.size≤w1.heap.size by omega) ((h7.o.trans (h9.o.mono h7.o.size)).trans ((hg.o.trans (hf.o.mono hg.o.size)).mono (by omega)))).setCell (show w.heap.size≤w3.heap.size by omega) _) (by omega) _
  ·have F:=h_ (Zk hd hp);have F2:=h_ (Fg F.o hp);have i4:(ey cs.length a t.size !=0)=true:=bN hp;generalize ey cs.length a t.size=pe at*;clear hp hd z1 z2 z3;go_enter Tryz.func60,Tryz.ntmps60
   go_wp2_with(first
    |(go_at_call 9;rw [←hk.o];refine HC.o.mono ?_;rintro e w1 ⟨rfl,h0⟩;have h5:=ah hc.o (ag hc.o) h0;have q0:=rc0 h5;have q1:=rc1 h5;have q8:=ag h5;have h6:=h_ (ah h8.o (ag h8.o) h0);have h9:=h_ h0;clear h5 h0)
    |(go_at_call 22;refine(HP.o _).mono ?_;rintro e w2 ⟨rfl,rfl⟩)
    |(refine wpList_store_rowTo rfl _ _ _ rfl rfl (w.heap.size+1) e8 rfl rfl 25 e8 h6.o jy rfl hn.o ?_))
   refine bodyPost_ret (cv rfl _ _ (w.heap.size+1) _ e8 (0,0) _ rfl (bh h6.o) Tryz.underlying25 rfl jy) rfl ?_;exact Kc F.o F2.o (below_setRow (h7.o.trans (h9.o.mono h7.o.size)) (by omega) _)
 ·have F:=h_ (Zn (a:=a) (t:=t) hd);have F2:=h_ (Fg F.o hd);have i4:(au cs ws !=0)=true:=bN hd;generalize au cs ws=de at*;clear hd;go_enter Tryz.func60,Tryz.ntmps60
  go_wp2_with(first
   |(go_at_call 9;rw [←hk.o];refine HC.o.mono ?_;rintro e w1 ⟨rfl,h0⟩;have h6:=h_ (ah h8.o (ag h8.o) h0);have h9:=h_ h0;clear h0)
   |(refine wpList_store_rowTo rfl _ _ _ rfl rfl (w.heap.size+1) e8 rfl rfl 25 e8 h6.o jy rfl hn.o ?_))
  refine bodyPost_ret (cv rfl _ _ (w.heap.size+1) _ e8 (0,0) _ rfl (bh h6.o) Tryz.underlying25 rfl jy) rfl ?_;exact Kc F.o F2.o (below_setRow (h7.o.trans (h9.o.mono h7.o.size)) (by omega) _)
theorem u0p:∀(args:Array Value) (W:World),(callFunc 94 args).run Tryz.prog W= .ok (.enter 94 args) W:=fun args W=>by kernel_rfl
theorem o0c(B:Nat)(w:World)(N:Nat):Ex 94 #[] B w N ia:=fun i W _ _=>by show Calls Tryz.prog 94 #[.int .i64 (i:Int)] W _;go_enter Tryz.func94,Tryz.ntmps94;go_wp2;go_ret;exact⟨rfl,br⟩
noncomputable def my(K:Nat→Bool)(cs:List ByteArray)(ws:List ae):List ByteArray:=if au cs ws=0 then kp K cs ws else []
def xr(K:Nat→Bool)(cs:List ByteArray)(ws:List ae)(w:World)(e:Ending)(w':World):Prop:=∃D q d,e= .returned (.tuple #[.agg #[.slice D q d,.slice none 0 0],.int .i64 (au cs ws)])∧ab w' w'.heap.size D q d (fun z=>[.string z]) 1 (my K cs ws)∧Below w.heap.size w w'∧(∀a,D=some a→w.heap.size≤a.block)
theorem b0s{K:Nat→Bool}{cs:List ByteArray}{ws:List ae}{w w':World}{E:Int}(h:au cs ws=E)(h0:E≠0)(hb:Below w.heap.size w w'):xr K cs ws w (.returned (.tuple #[.agg e8,.int .i64 E])) w':=
 ⟨none,0,0,by rw [h],by unfold my;rw [if_neg (by rw [h];exact h0)];exact Sg _ _,hb,(fun a ha=>by cases ha)⟩
theorem b0r{K:Nat→Bool}{cs:List ByteArray}{ws:List ae}{w w':World}{D:Option Addr}{q d:Nat}(h:au cs ws=0)(r:ab w' w'.heap.size D q d (fun z=>[.string z]) 1 (kp K cs ws))(f:∀a,D=some a→w.heap.size≤a.block)(hb:Below w.heap.size w w'):xr K cs ws w (.returned (.tuple #[.agg #[.slice D q d,.slice none 0 0],.int .i64 0])) w':=
 ⟨D,q,d,by rw [h],by unfold my;rw [if_pos h];exact r,hb,f⟩
theorem b0h(A:Option Addr)(n c:Nat)(cs:List ByteArray)(A':Option Addr)(n' c':Nat)(ws:List ae)(w:World)(r:ab w w.heap.size A n c (fun z=>[.string z]) 1 cs)(r':ab w w.heap.size A' n' c' ae.cells 2 ws):Calls Tryz.prog 61 #[.agg #[.slice A n c,.slice A' n' c']] w (xr ia cs ws w):=by
 obtain⟨wa,h1⟩:∃wa,wa=(w.alloc (.cells #[.slice A n c,.slice A' n' c'] 25)).alloc (.cells e8 25):=⟨_,rfl⟩;have ha:wa.heap.size=w.heap.size+2:=by rw [h1];simp
 have h6:Below w.heap.size w wa:=by rw [h1];exact(br.alloc ler _).alloc (by simp) _
 have hc:wa.heap[w.heap.size+1]?=some (.cells e8 25 (0,0)):=by rw [h1];have:=A_ (w.alloc (.cells #[.slice A n c,.slice A' n' c'] 25)) (.cells e8 25);rw [show(w.alloc (.cells #[.slice A n c,.slice A' n' c'] 25)).heap.size=w.heap.size+1 by simp]at this;exact this
 have hd:wa.heap[w.heap.size]?=some (.cells #[.slice A n c,.slice A' n' c'] 25 (0,0)):=by rw [h1];exact(heap_alloc_old _ _ (by simp)).trans (A_ w _)
 have ra:=(r.below h6).more (show w.heap.size≤wa.heap.size by omega);have h7:=(r'.below h6).more (show w.heap.size≤wa.heap.size by omega);have HC:=h_ (xe A n c cs A' n' c' ws wa ra h7);have hk:Hid ((e8:Array Value).all (·.oneCell')=true):=by simp [Hid,Value.oneCell']
 have HZ:=h_ ha;have h8:=h_ hc;have hg:=h_ hd;have hh:=h_ h1;have h3:=h_ h6;by_cases hE:au cs ws=0
 ·obtain⟨z1,z2,_,z3,z4⟩:=jz hE
  have HL:Hid (∀W,Below wa.heap.size wa W→Calls Tryz.prog 93 #[.agg #[.slice A n c,.slice A' n' c'],.func (.func 94) #[] #[]] W fun e w'=>∃D d,e= .returned (.agg #[.slice D cs.length d,.slice none 0 0])∧af w' W.heap.size 1 (.slice D cs.length d) cs.length ((kp ia cs ws).map Value.string)∧Below W.heap.size W w'):=fun W hW=>n0u _ #[] ia A n c cs A' n' c' ws W ((ra.below hW).more hW.size) ((h7.below hW).more hW.size) z1 z2 z4 (fun p hp=>⟨(Be z3 p hp).1,(Be z3 p hp).2.1⟩) (o0c _ _ _) u0p
  have HE:=h_ hE;rw [hE]at HC;clear r r' ra h7 hE h1 ha h6 hc hd z3;go_enter Tryz.func61,Tryz.ntmps61
  go_wp2_with(first
   |(go_at_call 9;rw [←hh.o];refine HC.o.mono ?_;rintro e w1 ⟨rfl,h0⟩;have he:=ah hg.o (ag hg.o) h0;have h4:=ah h8.o (ag h8.o) h0;have q0:=rc0 he;have q1:=rc1 he;have h5:=h_ h4;have h2:=h_ h0;clear he h4 h0)
   |(go_at_call 93;refine(HL.o _ h2.o).mono ?_;rintro e w2 ⟨D,d,rfl,r2,h9⟩;have hj:=h_ (ah h5.o (ag h5.o) h9);have hm:=h_ h9;have hf:=h_ r2;have hn:Hid ((#[.slice D cs.length d,.slice none 0 0]:Array Value).all (·.oneCell')=true):=(by simp [Hid,Value.oneCell']);clear h9 r2)
   |(refine wpList_store_rowTo rfl _ _ _ rfl rfl (w.heap.size+1) #[.slice D cs.length d,.slice none 0 0] rfl rfl 25 e8 hj.o jy rfl hn.o ?_))
  refine bodyPost_ret (cv rfl _ _ (w.heap.size+1) _ #[.slice D cs.length d,.slice none 0 0] (0,0) _ rfl (bh hj.o) Tryz.underlying25 rfl jy) rfl ?_;have hb:=(h3.o.trans (h2.o.mono (by have:=h3.o.size;omega))).trans (hm.o.mono (Nat.le_trans h3.o.size h2.o.size));exact b0r HE.o (C7 (hf.o.setRow (by have:=HZ.o;have:=h2.o.size;omega) _)) (I7 hf.o (by have:=h3.o.size;have:=h2.o.size;omega)) (below_setRow hb (by omega) _)
 ·have hq:(au cs ws !=0)=true:=bN hE;have F:Hid (∀w',Below w.heap.size w w'→xr ia cs ws w (.returned (.tuple #[.agg e8,.int .i64 (au cs ws)])) w'):=fun w' hb=>b0s rfl hE hb
  generalize au cs ws=E at*;clear r r' ra h7 hE h1 ha h6 hc hd;go_enter Tryz.func61,Tryz.ntmps61
  go_wp2_with(first
   |(go_at_call 9;rw [←hh.o];refine HC.o.mono ?_;rintro e w1 ⟨rfl,h0⟩;have h4:=ah h8.o (ag h8.o) h0;have h5:=h_ h4;have h2:=h_ h0;clear h4 h0)
   |(refine wpList_store_rowTo rfl _ _ _ rfl rfl (w.heap.size+1) e8 rfl rfl 25 e8 h5.o jy rfl hk.o ?_))
  refine bodyPost_ret (cv rfl _ _ (w.heap.size+1) _ e8 (0,0) _ rfl (bh h5.o) Tryz.underlying25 rfl jy) rfl ?_;exact F.o _ (below_setRow (h3.o.trans (h2.o.mono (by have:=h3.o.size;omega))) (by omega) _)
end Go.Proofs.YtcldpfhpkbeaiadGreat
