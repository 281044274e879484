/- A part of the proof of FsMounts. No condition of ours. -/
import Derived.Test.YtcldpfhpkbeaiadGreatFsMounts13
set_option maxRecDepth 20000
set_option maxHeartbeats 16000000
namespace Go.Proofs.YtcldpfhpkbeaiadGreat
open Go.RowKit
theorem Bq{W:World}{M j:Nat}{x v:Value}{a:Addr}(h:W.cell? a=some v)(hne:a.block≠M):(W.setCell ⟨M,j,none⟩ x).cell? a=some v:=
 (World.cell?_setCell_other _ _ _ _ (fun e=>hne (by rw [←e]))).trans h
theorem um{W:World}{M:Nat}{x0 x1 x2 x3 v:Value}{a:Addr}(h:W.cell? a=some v)(hne:a.block≠M):((((W.setCell ⟨M,0,none⟩ x0).setCell ⟨M,1,none⟩ x1).setCell ⟨M,2,none⟩ x2).setCell ⟨M,3,none⟩ x3).cell? a=some v:=
 Bq (Bq (Bq (Bq h hne) hne) hne) hne
theorem vu{W:World}{a0 a1 a2 a3 a4 a5:Addr}{v0 v1 v2 v3 v4 v5:Value}(h:W.cell? a0=some v0∧W.cell? a1=some v1∧W.cell? a2=some v2∧W.cell? a3=some v3∧W.cell? a4=some v4∧W.cell? a5=some v5):W.drew.cell? a0=some v0∧W.drew.cell? a1=some v1∧W.drew.cell? a2=some v2∧W.drew.cell? a3=some v3∧W.drew.cell? a4=some v4∧W.drew.cell? a5=some v5:=h
theorem J5{W:World}{M:Nat}{x0 x1 x2 x3:Value}{a0 a1 a2 a3 a4 a5:Addr}{v0 v1 v2 v3 v4 v5:Value}(n:a0.block≠M∧a1.block≠M∧a2.block≠M∧a3.block≠M∧a4.block≠M∧a5.block≠M)(h:W.cell? a0=some v0∧W.cell? a1=some v1∧W.cell? a2=some v2∧W.cell? a3=some v3∧W.cell? a4=some v4∧W.cell? a5=some v5):((((W.setCell ⟨M,0,none⟩ x0).setCell ⟨M,1,none⟩ x1).setCell ⟨M,2,none⟩ x2).setCell ⟨M,3,none⟩ x3).cell? a0=some v0∧((((W.setCell ⟨M,0,none⟩ x0).setCell ⟨M,1,none⟩ x1).setCell ⟨M,2,none⟩ x2).setCell ⟨M,3,none⟩ x3).cell? a1=some v1∧((((W.setCell ⟨M,0,none⟩ x0).setCell ⟨M,1,none⟩ x1).setCell ⟨M,2,none⟩ x2).setCell ⟨M,3,none⟩ x3).cell? a2=some v2∧((((W.setCell ⟨M,0,none⟩ x0).setCell ⟨M,1,none⟩ x1).setCell ⟨M,2,none⟩ x2).setCell ⟨M,3,none⟩ x3).cell? a3=some v3∧((((W.setCell ⟨M,0,none⟩ x0).setCell ⟨M,1,none⟩ x1).setCell ⟨M,2,none⟩ x2).setCell ⟨M,3,none⟩ x3).cell? a4=some v4∧((((W.setCell ⟨M,0,none⟩ x0).setCell ⟨M,1,none⟩ x1).setCell ⟨M,2,none⟩ x2).setCell ⟨M,3,none⟩ x3).cell? a5=some v5:=
 ⟨um h.1 n.1,um h.2.1 n.2.1,um h.2.2.1 n.2.2.1,um h.2.2.2.1 n.2.2.2.1,um h.2.2.2.2.1 n.2.2.2.2.1,um h.2.2.2.2.2 n.2.2.2.2.2⟩
def Fb(cs:List ByteArray)(ws:List ae)(k:Nat)(p:aa)(g:Int)(w:World)(e:Ending)(w':World):Prop:=
 (fw cs ws k p g∧∃(K G S:Int) (D:Option Addr) (q d:Nat),e= .returned (.tuple #[.agg #[.int .i64 K,.int .i64 G,.int .i64 S,.slice D q d],.bool true])∧ab w' w'.heap.size D q d aa.cells 2 (pts cs ws p)∧Below w.heap.size w w'∧(∀a,D=some a→w.heap.size≤a.block))∨
 (¬fw cs ws k p g∧∃(K G S:Int) (D:Option Addr) (q d:Nat),e= .returned (.tuple #[.agg #[.int .i64 K,.int .i64 G,.int .i64 S,.slice D q d],.bool false])∧Below w.heap.size w w')
def xy(cs:List ByteArray)(ws:List ae)(k:Nat)(p:aa)(g:Int)(w:World)(e:Ending)(w':World):Prop:=
 (fw cs ws k p g∧∃(D:Option Addr) (q d:Nat),e= .returned (.tuple #[.agg #[.int .i64 (irK (ubB cs ws p.Cell p.Nth).Text),.int .i64 (irG (ubB cs ws p.Cell p.Nth).Text),.int .i64 (irS (ubB cs ws p.Cell p.Nth).Text),.slice D q d],.bool true])∧ab w' w'.heap.size D q d aa.cells 2 (pts cs ws p)∧Below w.heap.size w w'∧(∀a,D=some a→w.heap.size≤a.block))∨
 (¬fw cs ws k p g∧∃(K G S:Int) (D:Option Addr) (q d:Nat),e= .returned (.tuple #[.agg #[.int .i64 K,.int .i64 G,.int .i64 S,.slice D q d],.bool false])∧Below w.heap.size w w')
theorem xy.weak{cs:List ByteArray}{ws:List ae}{k:Nat}{p:aa}{g:Int}{w:World}{e:Ending}{w':World}(h:xy cs ws k p g w e w'):Fb cs ws k p g w e w':=by
 rcases h with⟨h1,D,q,d,h2⟩|h
 ·exact .inl ⟨h1,_,_,_,D,q,d,h2⟩
 ·exact .inr h
theorem Yr(A:Option Addr)(n c:Nat)(cs:List ByteArray)(A':Option Addr)(n' c':Nat)(ws:List ae)(Am:Option Addr)(nm cm:Nat)(xs:List aa)(Ag:Option Addr)(ng cg:Nat)(gs:List Int)(k:Nat)(pc pn g:Int)(w:World)(r:ab w w.heap.size A n c (fun z=>[.string z]) 1 cs)(r':ab w w.heap.size A' n' c' ae.cells 2 ws)(rm:ab w w.heap.size Am nm cm aa.cells 2 xs)(rg:ab w w.heap.size Ag ng cg (fun z=>[.int .i64 z]) 1 gs)(hd:au cs ws=0)(hp:xs[k]?=some ⟨pc,pn⟩)(hg:gs[k]?=some g):Calls Tryz.prog 40 #[.agg #[.slice A n c,.slice A' n' c'],.agg #[.slice Am nm cm,.slice Ag ng cg],.int .i64 k] w (xy cs ws k ⟨pc,pn⟩ g w):=by
 have g0:=r.len;subst g0;have hS:=r'.len;subst hS;have hN:=rm.len;subst hN;have g2:=rg.len;subst g2;obtain⟨wa,hu⟩:∃wa,wa=((w.alloc (.cells #[.slice A cs.length c,.slice A' ws.length c'] 25)).alloc (.cells #[.slice Am xs.length cm,.slice Ag gs.length cg] 43)).alloc (.cells bf 67):=⟨_,rfl⟩;obtain⟨hy,h7⟩:=vk w (.cells #[.slice A cs.length c,.slice A' ws.length c'] 25) (.cells #[.slice Am xs.length cm,.slice Ag gs.length cg] 43) (.cells bf 67);obtain⟨hs,hk,hq⟩:=nj w (.cells #[.slice A cs.length c,.slice A' ws.length c'] 25) (.cells #[.slice Am xs.length cm,.slice Ag gs.length cg] 43) (.cells bf 67);rw [←hu]at hy h7 hs hk hq;have hB:=h7.size;have RA:=h_ ((r.below h7).more hB);have hT:=h_ ((r'.below h7).more hB);have i1:(k:Int) < (xs.length:Int):=by have:=(gS.1 hp).1;omega
 have i2:(k:Int) < (gs.length:Int):=by have:=(gS.1 hg).1;omega
 obtain⟨bm,om,rfl,hW,hC⟩:=(rm.below h7).at_ k _ hp;obtain⟨bg,og,rfl,hY,hJ⟩:=(rg.below h7).one hg;have hD:wa.cell? ⟨bm,om+k*2,none⟩=some (.int .i64 pc):=by simpa using hC 0 _ rfl
 have hG:wa.cell? ⟨bm,om+k*2+1,none⟩=some (.int .i64 pn):=hC 1 _ rfl
 have HC:Hid (∀W,Below wa.heap.size wa W→W.cell? ⟨w.heap.size,0,none⟩=some (.slice A cs.length c)∧W.cell? ⟨w.heap.size,1,none⟩=some (.slice A' ws.length c')∧W.cell? ⟨w.heap.size+1,0,none⟩=some (.slice (some ⟨bm,om,none⟩) xs.length cm)∧W.cell? ⟨w.heap.size+1,1,none⟩=some (.slice (some ⟨bg,og,none⟩) gs.length cg)∧W.cell? ⟨bm,om+k*2,none⟩=some (.int .i64 pc)∧W.cell? ⟨bm,om+k*2+1,none⟩=some (.int .i64 pn)∧W.cell? ⟨bg,og+k,none⟩=some (.int .i64 g)∧Hid (W.heap[w.heap.size+1+1]?=some (.cells bf 67 (0,0)))):=fun W h=>by have q0:=ah hs (ag hs) h;have q1:=ah hk (ag hk) h;exact⟨aj q0 0,aj q0 1,aj q1 0,aj q1 1,(h.cell (p:=⟨bm,om+k*2,none⟩) (by simp only;omega)).trans hD,(h.cell (p:=⟨bm,om+k*2+1,none⟩) (by simp only;omega)).trans hG,(h.cell (p:=⟨bg,og+k,none⟩) (by simp only;omega)).trans hJ,ah hq (ag hq) h⟩
 have hx:Hid (∀W,Below wa.heap.size wa W→Calls Tryz.prog 69 #[.agg #[.slice A cs.length c,.slice A' ws.length c'],.agg #[.int .i64 pc,.int .i64 pn]] W fun e w'=>∃_:Unit,e= .returned (.tuple #[.agg #[.int .i64 (ubB cs ws pc pn).Kind,.int .i64 (ubB cs ws pc pn).Ino,.int .i64 (ubB cs ws pc pn).Nth,.string (ubB cs ws pc pn).Text],.int .i64 (ubE cs ws pc pn)])∧Below W.heap.size W w'):=fun W h=>Xn (La A _ c cs A' _ c' ws pc pn W ((RA.o.below h).more h.size) ((hT.o.below h).more h.size) (jz hd).2.2.2.2)
 have hL:Hid (∀W,Calls Tryz.prog 70 #[.string (ubB cs ws pc pn).Text] W fun e w'=>∃A n c,e= .returned (.tuple #[.agg #[.int .i64 (irK (ubB cs ws pc pn).Text),.int .i64 (irG (ubB cs ws pc pn).Text),.int .i64 (irS (ubB cs ws pc pn).Text),.slice A n c],.int .i64 (irE (ubB cs ws pc pn).Text)])∧ab w' w'.heap.size A n c aa.cells 2 (irP (ubB cs ws pc pn).Text)∧Below W.heap.size W w'∧(∀a,A=some a→W.heap.size≤a.block)):=fun W=>o0r _ W (by have:=sg hd pc pn;omega)
 have hv:Hid ((bf:Array Value).all (·.oneCell')=true):=by simp [Hid,Value.oneCell']
 have h8:Hid (¬(ubE cs ws pc pn=0∧(ubB cs ws pc pn).Kind=2∧(ubB cs ws pc pn).Ino=k∧irE (ubB cs ws pc pn).Text=0∧irG (ubB cs ws pc pn).Text=g)→∀w',Below w.heap.size w w'→∀(K G S:Int) (D:Option Addr) (q d:Nat),xy cs ws k ⟨pc,pn⟩ g w (.returned (.tuple #[.agg #[.int .i64 K,.int .i64 G,.int .i64 S,.slice D q d],.bool false])) w'):=fun h w' hb K G S D q d=>.inr ⟨h,K,G,S,D,q,d,rfl,hb⟩
 have hF:Hid ((ubE cs ws pc pn=0∧(ubB cs ws pc pn).Kind=2∧(ubB cs ws pc pn).Ino=k∧irE (ubB cs ws pc pn).Text=0∧irG (ubB cs ws pc pn).Text=g)→∀(D:Option Addr) (q d:Nat) (w':World),ab w' w'.heap.size D q d aa.cells 2 (irP (ubB cs ws pc pn).Text)→Below w.heap.size w w'→(∀a,D=some a→w.heap.size≤a.block)→xy cs ws k ⟨pc,pn⟩ g w (.returned (.tuple #[.agg #[.int .i64 (irK (ubB cs ws pc pn).Text),.int .i64 (irG (ubB cs ws pc pn).Text),.int .i64 (irS (ubB cs ws pc pn).Text),.slice D q d],.bool true])) w'):=fun h D q d w' hr hb hf=>.inl ⟨h,D,q,d,rfl,hr,hb,hf⟩
 have hV:Hid (¬bg=w.heap.size+1+1):=by simp only [Hid];omega
 have hZ:=h_ hu;have h4:=h_ h7;have hA:=h_ hy;clear r r' rm rg hu h7 hy hs hk hq hB hd hp hg hC hJ hD hG hW hY;generalize ubE cs ws pc pn=E at*;generalize ubB cs ws pc pn=B at*;obtain⟨bk,bi,bn,bt⟩:=B;simp only at hx hL h8 hF;generalize irE bt=ie at*;generalize irG bt=ig at*;generalize irK bt=ik at*;generalize irS bt=is at*;generalize irP bt=ip at*;go_enter Tryz.func40,Tryz.ntmps40;go_wp2;rw [←hZ.o];obtain⟨v0,v1,v2,v3,v4,v5,v6,v7⟩:=HC.o wa br;obtain⟨y0,y1,y2,y3,y4,y5,y6,y7⟩:=HC.o (wa.alloc (.cells dm 85)) (br.alloc ler _);have hQ:Hid (Below wa.heap.size wa (wa.alloc (.cells dm 85)).drew):=(br.alloc ler _).drew;have hR:Hid (wa.heap.size < (wa.alloc (.cells dm 85)).drew.heap.size):=by simp only [Hid];show wa.heap.size < (wa.alloc (.cells dm 85)).heap.size;simp
 go_cut [8,9] (fun s9 s10 wx=>UiI 85 (w.heap.size+3) ⟨bk,bi,bn,bt⟩ E wa s9 s10 wx)
 case first=>
  go_region_law(first
   |(refine eh rfl 69 rfl #[.agg #[.slice A cs.length c,.slice A' ws.length c'],.agg #[.int .i64 pc,.int .i64 pn]] (fun _:Unit=>Value.tuple #[.agg #[.int .i64 bk,.int .i64 bi,.int .i64 bn,.string bt],.int .i64 E]) (by simp [go_sem]) (hx.o wa.drew br.drew) ?_;rintro⟨⟩ w2 he;have h6:=A_ w2 (.cells dm 85);have u0:=rc0 h6;have u1:=rc1 h6;have u2:=rc2 h6;have u3:=rc3 h6;have u4:=ak h6 0;have u5:=ak h6 1;have u6:=ak h6 2;have u7:=ak h6 3)
   |(refine eh rfl 69 rfl #[.agg #[.slice A cs.length c,.slice A' ws.length c'],.agg #[.int .i64 pc,.int .i64 pn]] (fun _:Unit=>Value.tuple #[.agg #[.int .i64 bk,.int .i64 bi,.int .i64 bn,.string bt],.int .i64 E]) (by simp [go_sem]) (hx.o (wa.alloc (.cells dm 85)).drew hQ.o) ?_;rintro⟨⟩ w2 he;have hM:=ah (w:=(wa.alloc (.cells dm 85)).drew) (A_ wa _) hR.o he;have u0:=rc0 hM;have u1:=rc1 hM;have u2:=rc2 hM;have u3:=rc3 hM;have u4:=ak hM 0;have u5:=ak hM 1;have u6:=ak hM 2;have u7:=ak hM 3))
  all_goals
   go_wp2_with fail;go_meet
   case rel=>first|exact Na (b:=⟨bk,bi,bn,bt⟩) hM he hA.o|exact Nb (b:=⟨bk,bi,bn,bt⟩) he hA.o
 case rest=>
  obtain⟨M,rfl,rfl,g3,HM,HB⟩:=hcut;obtain⟨w3,rfl⟩:∃z:World,z=wc:=⟨_,rfl⟩;clear v0 v1 v2 v3 v4 v5 v6 v7 y0 y1 y2 y3 y4 y5 y6 y7;obtain⟨_,_,_,v3,_,_,v6,v7⟩:=HC.o w3 HB.o;have b0:=rc0 HM.o;have b1:=rc1 HM.o;have b3:=rc3 HM.o;by_cases hE:E=0
  ·subst hE;by_cases hk2:bk=2
   ·subst hk2;by_cases hbi:bi=k
    ·subst hbi;go_wp2_with(go_at_call 70;refine(hL.o _).mono ?_;rintro e w4 ⟨D,q,d,rfl,r4,hh,hI⟩;have hH:=h_ (ah HM.o (ag HM.o) hh);have hz:=h_ (HB.o.trans (hh.mono HB.o.size));have R4:=h_ r4;have hn:=h_ hI;have hX:Hid (w3.heap.size≤w4.heap.size):=hh.size;clear hh r4 hI);have hj:=h_ (A_ w4 (.cells #[.int .i64 ik,.int .i64 ig,.int .i64 is,.slice D q d] 67));have hP:=h_ (cq hH.o (.cells #[.int .i64 ik,.int .i64 ig,.int .i64 is,.slice D q d] 67));have ht:=h_ (hz.o.alloc hz.o.size (.cells #[.int .i64 ik,.int .i64 ig,.int .i64 is,.slice D q d] 67));have R5:=h_ (iv R4.o (.cells #[.int .i64 ik,.int .i64 ig,.int .i64 is,.slice D q d] 67));clear v3 v6 v7 b0 b1 b3 R4 hH hz;generalize w4.alloc (.cells #[.int .i64 ik,.int .i64 ig,.int .i64 is,.slice D q d] 67)=w5 at*;obtain⟨_,_,_,v3,_,_,v6,v7⟩:=HC.o w5 ht.o;have t0:=rc0 hj.o;have t1:=rc1 hj.o;have t2:=rc2 hj.o;have t3:=rc3 hj.o;have b3:=rc3 hP.o;have hw:=v7;have l0:=rc0 v7.o;have l1:=rc1 v7.o;have l2:=rc2 v7.o;have l3:=rc3 v7.o;have l4:w5.drew.frozen? ⟨w.heap.size+1+1,0,none⟩=false:=ak v7.o 0;have l5:w5.drew.frozen? ⟨w.heap.size+1+1,1,none⟩=false:=ak v7.o 1;have l6:w5.drew.frozen? ⟨w.heap.size+1+1,2,none⟩=false:=ak v7.o 2;have l7:w5.drew.frozen? ⟨w.heap.size+1+1,3,none⟩=false:=ak v7.o 3;have x0:=rc0 v7.o;have x1:=rc1 v7.o;have x2:=rc2 v7.o;have x3:=rc3 v7.o;have x4:w5.frozen? ⟨w.heap.size+1+1,0,none⟩=false:=ak v7.o 0;have x5:w5.frozen? ⟨w.heap.size+1+1,1,none⟩=false:=ak v7.o 1;have x6:w5.frozen? ⟨w.heap.size+1+1,2,none⟩=false:=ak v7.o 2;have x7:w5.frozen? ⟨w.heap.size+1+1,3,none⟩=false:=ak v7.o 3;have h5:w5.cell? ⟨w4.heap.size,0,none⟩=some (.int .i64 ik)∧w5.cell? ⟨w4.heap.size,1,none⟩=some (.int .i64 ig)∧w5.cell? ⟨w4.heap.size,2,none⟩=some (.int .i64 is)∧w5.cell? ⟨w4.heap.size,3,none⟩=some (.slice D q d)∧w5.cell? ⟨w.heap.size+1,1,none⟩=some (.slice (some ⟨bg,og,none⟩) gs.length cg)∧w5.cell? ⟨bg,og+k,none⟩=some (.int .i64 g):=⟨t0,t1,t2,t3,v3,v6⟩;have h9:Hid (w.heap.size+3≤w3.heap.size):=by have h1:=HB.o.size;have h2:=hA.o;simp only [Hid];omega
     have n1:¬w4.heap.size=w.heap.size+1+1:=by have h1:=h9.o;have h2:=hX.o;omega
     have n3:¬bg=w.heap.size+1+1:=hV.o;have NN:Hid ((⟨w4.heap.size,0,none⟩:Addr).block≠w.heap.size+1+1∧(⟨w4.heap.size,1,none⟩:Addr).block≠w.heap.size+1+1∧(⟨w4.heap.size,2,none⟩:Addr).block≠w.heap.size+1+1∧(⟨w4.heap.size,3,none⟩:Addr).block≠w.heap.size+1+1∧(⟨w.heap.size+1,1,none⟩:Addr).block≠w.heap.size+1+1∧(⟨bg,og+k,none⟩:Addr).block≠w.heap.size+1+1):=⟨n1,n1,n1,n1,(show w.heap.size+1≠w.heap.size+1+1 by omega),n3⟩;clear n1 n3 t0 t1 t2 t3 v3 v6 v7;by_cases hie:ie=0
     ·subst hie;by_cases hig:ig=g
      ·subst hig;have hU:=h_ (hF.o (by simp));refine wp_region_noPanic ?_;refine wp_region_held_drew (S:=(fun W=>W.cell? ⟨w4.heap.size,0,none⟩=some (.int .i64 ik)∧W.cell? ⟨w4.heap.size,1,none⟩=some (.int .i64 ig)∧W.cell? ⟨w4.heap.size,2,none⟩=some (.int .i64 is)∧W.cell? ⟨w4.heap.size,3,none⟩=some (.slice D q d)∧W.cell? ⟨w.heap.size+1,1,none⟩=some (.slice (some ⟨bg,og,none⟩) gs.length cg)∧W.cell? ⟨bg,og+k,none⟩=some (.int .i64 ig))) (by kernel_rfl) (vu h5) (fun hHeld=>?_);refine' wpAnyH_take (i:=0) (oi:=_) (v:=_) ?hi0a ?hs0a ?hf0a ?hr0a ?hQ0a (Or.inl ⟨?hw0a,?hy0a⟩) ?hS0a ?rest0a
       case hi0a=>((try simp only [sA,sC]);rfl)
       case hs0a=>kernel_rfl
       case hf0a=>kernel_rfl
       case hr0a=>kernel_rfl
       case hQ0a=>exact fun _ _ _ h=>h
       case hw0a=>rfl
       case hS0a=>assumption
       case hy0a=>(intro w h0;(try dsimp only at h0);go_simp;(try with_reducible rfl))
       (try simp only [Act.put,sD,sE,sF]);refine' wpAnyH_take (i:=1) (oi:=_) (v:=_) ?hi1a ?hs1a ?hf1a ?hr1a ?hQ1a (Or.inl ⟨?hw1a,?hy1a⟩) ?hS1a ?rest1a
       case hi1a=>((try simp only [sA,sB,sC]);rfl)
       case hs1a=>kernel_rfl
       case hf1a=>kernel_rfl
       case hr1a=>kernel_rfl
       case hQ1a=>exact fun _ _ _ h=>h
       case hw1a=>rfl
       case hS1a=>assumption
       case hy1a=>(intro w h0;(try dsimp only at h0);go_simp;(try with_reducible rfl))
       (try simp only [Act.put,sD,sE,sF]);refine' wpAnyH_take (i:=2) (oi:=_) (v:=_) ?hi2a ?hs2a ?hf2a ?hr2a ?hQ2a (Or.inl ⟨?hw2a,?hy2a⟩) ?hS2a ?rest2a
       case hi2a=>((try simp only [sA,sB,sC]);rfl)
       case hs2a=>kernel_rfl
       case hf2a=>kernel_rfl
       case hr2a=>kernel_rfl
       case hQ2a=>exact fun _ _ _ h=>h
       case hw2a=>rfl
       case hS2a=>assumption
       case hy2a=>(intro w h0;(try dsimp only at h0);go_simp;(try with_reducible rfl))
       (try simp only [Act.put,sD,sE,sF]);refine' wpAnyH_take (i:=3) (oi:=_) (v:=_) ?hi3a ?hs3a ?hf3a ?hr3a ?hQ3a (Or.inl ⟨?hw3a,?hy3a⟩) ?hS3a ?rest3a
       case hi3a=>((try simp only [sA,sB,sC]);rfl)
       case hs3a=>kernel_rfl
       case hf3a=>kernel_rfl
       case hr3a=>kernel_rfl
       case hQ3a=>exact fun _ _ _ h=>h
       case hw3a=>rfl
       case hS3a=>assumption
       case hy3a=>(intro w h0;(try dsimp only at h0);go_simp;(try with_reducible rfl))
       (try simp only [Act.put,sD,sE,sF]);refine' wpAnyH_take (i:=4) (oi:=_) (v:=_) ?hi4a ?hs4a ?hf4a ?hr4a ?hQ4a (Or.inl ⟨?hw4a,?hy4a⟩) ?hS4a ?rest4a
       case hi4a=>((try simp only [sA,sB,sC]);rfl)
       case hs4a=>kernel_rfl
       case hf4a=>kernel_rfl
       case hr4a=>kernel_rfl
       case hQ4a=>exact fun _ _ _ h=>h
       case hw4a=>rfl
       case hS4a=>assumption
       case hy4a=>(intro w h0;(try dsimp only at h0);go_simp;(try with_reducible rfl))
       (try simp only [Act.put,sD,sE,sF]);refine' wpAnyH_take (i:=5) (oi:=_) (v:=_) ?hi5a ?hs5a ?hf5a ?hr5a ?hQ5a (Or.inl ⟨?hw5a,?hy5a⟩) ?hS5a ?rest5a
       case hi5a=>((try simp only [sA,sB,sC]);rfl)
       case hs5a=>kernel_rfl
       case hf5a=>kernel_rfl
       case hr5a=>kernel_rfl
       case hQ5a=>exact fun _ _ _ h=>h
       case hw5a=>rfl
       case hS5a=>assumption
       case hy5a=>(intro w h0;(try dsimp only at h0);go_simp;(try with_reducible rfl))
       (try simp only [Act.put,sD,sE,sF]);refine' wpAnyH_take (i:=6) (oi:=_) (v:=_) ?hi6a ?hs6a ?hf6a ?hr6a ?hQ6a (Or.inl ⟨?hw6a,?hy6a⟩) ?hS6a ?rest6a
       case hi6a=>((try simp only [sA,sB,sC]);rfl)
       case hs6a=>kernel_rfl
       case hf6a=>kernel_rfl
       case hr6a=>kernel_rfl
       case hQ6a=>exact fun _ _ _ h=>h
       case hw6a=>rfl
       case hS6a=>assumption
       case hy6a=>(intro w h0;(try dsimp only at h0);go_simp;(try with_reducible rfl))
       (try simp only [Act.put,sD,sE,sF]);refine' wpAnyH_take (i:=7) (oi:=_) (v:=_) ?hi7a ?hs7a ?hf7a ?hr7a ?hQ7a (Or.inl ⟨?hw7a,?hy7a⟩) ?hS7a ?rest7a
       case hi7a=>((try simp only [sA,sB,sC]);rfl)
       case hs7a=>kernel_rfl
       case hf7a=>kernel_rfl
       case hr7a=>kernel_rfl
       case hQ7a=>exact fun _ _ _ h=>h
       case hw7a=>rfl
       case hS7a=>assumption
       case hy7a=>(intro w h0;(try dsimp only at h0);go_simp;(try with_reducible rfl))
       (try simp only [Act.put,sD,sE,sF]);refine' wpAnyH_take (i:=8) (oi:=_) (v:=_) ?hi8a ?hs8a ?hf8a ?hr8a ?hQ8a (Or.inl ⟨?hw8a,?hy8a⟩) ?hS8a ?rest8a
       case hi8a=>((try simp only [sA,sB,sC]);rfl)
       case hs8a=>kernel_rfl
       case hf8a=>kernel_rfl
       case hr8a=>kernel_rfl
       case hQ8a=>exact fun _ _ _ h=>h
       case hw8a=>rfl
       case hS8a=>assumption
       case hy8a=>(intro w h0;(try dsimp only at h0);go_simp;(try with_reducible rfl))
       (try simp only [Act.put,sD,sE,sF]);refine' wpAnyH_take (i:=9) (oi:=_) (v:=_) ?hi9a ?hs9a ?hf9a ?hr9a ?hQ9a (Or.inl ⟨?hw9a,?hy9a⟩) ?hS9a ?rest9a
       case hi9a=>((try simp only [sA,sB,sC]);rfl)
       case hs9a=>kernel_rfl
       case hf9a=>kernel_rfl
       case hr9a=>kernel_rfl
       case hQ9a=>exact fun _ _ _ h=>h
       case hw9a=>rfl
       case hS9a=>assumption
       case hy9a=>(intro w h0;(try dsimp only at h0);go_simp;(try with_reducible rfl))
       (try simp only [Act.put,sD,sE,sF]);refine' wpAnyH_take (i:=10) (oi:=_) (v:=_) ?hi10a ?hs10a ?hf10a ?hr10a ?hQ10a (Or.inl ⟨?hw10a,?hy10a⟩) ?hS10a ?rest10a
       case hi10a=>((try simp only [sA,sB,sC]);rfl)
       case hs10a=>kernel_rfl
       case hf10a=>kernel_rfl
       case hr10a=>kernel_rfl
       case hQ10a=>exact fun _ _ _ h=>h
       case hw10a=>rfl
       case hS10a=>assumption
       case hy10a=>(intro w h0;(try dsimp only at h0);go_simp;(try with_reducible rfl))
       (try simp only [Act.put,sD,sE,sF]);refine' wpAnyH_take (i:=11) (oi:=_) (v:=_) ?hi11a ?hs11a ?hf11a ?hr11a ?hQ11a (Or.inl ⟨?hw11a,?hy11a⟩) ?hS11a ?rest11a
       case hi11a=>((try simp only [sA,sB,sC]);rfl)
       case hs11a=>kernel_rfl
       case hf11a=>kernel_rfl
       case hr11a=>kernel_rfl
       case hQ11a=>exact fun _ _ _ h=>h
       case hw11a=>rfl
       case hS11a=>assumption
       case hy11a=>(intro w h0;(try dsimp only at h0);go_simp;(try with_reducible rfl))
       (try simp only [Act.put,sD,sE,sF]);refine' wpAnyH_take (i:=12) (oi:=_) (v:=_) ?hi12a ?hs12a ?hf12a ?hr12a ?hQ12a (Or.inl ⟨?hw12a,?hy12a⟩) ?hS12a ?rest12a
       case hi12a=>((try simp only [sA,sB,sC]);rfl)
       case hs12a=>kernel_rfl
       case hf12a=>kernel_rfl
       case hr12a=>kernel_rfl
       case hQ12a=>exact fun _ _ _ h=>h
       case hw12a=>rfl
       case hS12a=>assumption
       case hy12a=>(intro w h0;(try dsimp only at h0);go_simp;(try with_reducible rfl))
       (try simp only [Act.put,sD,sE,sF]);refine wpAnyH_ready (rs:=[13]) (by kernel_rfl) (by simp) ?_;refine AllReadyH.cons rfl (fun K hK=>?_) AllReadyH.nil;go_simp;refine hK.out _ _ (vu (J5 NN.o h5)) (fun hHeld2=>?_);clear hK K;refine' wpAnyH_take (i:=14) (oi:=_) (v:=_) ?hi14a ?hs14a ?hf14a ?hr14a ?hQ14a (Or.inl ⟨?hw14a,?hy14a⟩) ?hS14a ?rest14a
       case hi14a=>((try simp only [sA,sB,sC]);rfl)
       case hs14a=>kernel_rfl
       case hf14a=>kernel_rfl
       case hr14a=>kernel_rfl
       case hQ14a=>exact fun _ _ _ h=>h
       case hw14a=>rfl
       case hS14a=>assumption
       case hy14a=>(intro w h0;(try dsimp only at h0);go_simp;(try with_reducible rfl))
       (try simp only [Act.put,sD,sE,sF]);refine wpAnyH_done (by kernel_rfl) ?_ _;refine NoPanic.normal ?_
       all_goals
        have hm:=b9 (j:=3) (v:=.slice D q d) (b9 (j:=2) (v:=.int .i64 is) (b9 (j:=1) (v:=.int .i64 ig) (b9 (j:=0) (v:=.int .i64 ik) hw.o)));have ha:Hid (((((w5.setCell ⟨w.heap.size+1+1,0,none⟩ (.int .i64 ik)).setCell ⟨w.heap.size+1+1,1,none⟩ (.int .i64 ig)).setCell ⟨w.heap.size+1+1,2,none⟩ (.int .i64 is)).setCell ⟨w.heap.size+1+1,3,none⟩ (.slice D q d)).drew.heap[w.heap.size+1+1]?=some (.cells #[.int .i64 ik,.int .i64 ig,.int .i64 is,.slice D q d] 67 (0,0))):=hm;have h3:∀b o,D=some ⟨b,o,none⟩→0 <q→b≠w.heap.size+1+1:=fun b o e _ e2=>by have h1:=hn.o _ e;have h2:=h9.o;simp only at h1;omega
        have R9:Hid (ab ((((w5.setCell ⟨w.heap.size+1+1,0,none⟩ (.int .i64 ik)).setCell ⟨w.heap.size+1+1,1,none⟩ (.int .i64 ig)).setCell ⟨w.heap.size+1+1,2,none⟩ (.int .i64 is)).setCell ⟨w.heap.size+1+1,3,none⟩ (.slice D q d)).drew ((((w5.setCell ⟨w.heap.size+1+1,0,none⟩ (.int .i64 ik)).setCell ⟨w.heap.size+1+1,1,none⟩ (.int .i64 ig)).setCell ⟨w.heap.size+1+1,2,none⟩ (.int .i64 is)).setCell ⟨w.heap.size+1+1,3,none⟩ (.slice D q d)).drew.heap.size D q d aa.cells 2 ip):=
         ((dj (z:=3) (dj (z:=2) (dj (z:=1) (dj (z:=0) R5.o h3 _) h3 _) h3 _) h3 _).more (by simp [World.setCell])).drew
        have hc:Hid (Below w.heap.size w ((((w5.setCell ⟨w.heap.size+1+1,0,none⟩ (.int .i64 ik)).setCell ⟨w.heap.size+1+1,1,none⟩ (.int .i64 ig)).setCell ⟨w.heap.size+1+1,2,none⟩ (.int .i64 is)).setCell ⟨w.heap.size+1+1,3,none⟩ (.slice D q d)).drew):=(((((h4.o.trans (ht.o.mono h4.o.size)).setCell (p:=⟨w.heap.size+1+1,0,none⟩) (by simp only;omega) _).setCell (p:=⟨w.heap.size+1+1,1,none⟩) (by simp only;omega) _).setCell (p:=⟨w.heap.size+1+1,2,none⟩) (by simp only;omega) _).setCell (p:=⟨w.heap.size+1+1,3,none⟩) (by simp only;omega) _).drew;clear hm h3 h5 l0 l1 l2 l3 l4 l5 l6 l7 x0 x1 x2 x3 x4 x5 x6 x7;generalize((((w5.setCell ⟨w.heap.size+1+1,0,none⟩ (.int .i64 ik)).setCell ⟨w.heap.size+1+1,1,none⟩ (.int .i64 ig)).setCell ⟨w.heap.size+1+1,2,none⟩ (.int .i64 is)).setCell ⟨w.heap.size+1+1,3,none⟩ (.slice D q d)).drew=w9 at*;go_wp2;refine bodyPost_ret (cv rfl _ _ (w.heap.size+1+1) _ #[.int .i64 ik,.int .i64 ig,.int .i64 is,.slice D q d] (0,0) _ rfl ha.o Tryz.underlying67 rfl du) rfl ?_;exact hU.o _ _ _ _ R9.o hc.o (fun a e=>by have h1:=hn.o a e;have h2:=h9.o;omega)
      ·have g1:(ig==g)=false:=bF hig;refine wp_region_noPanic ?_;refine wp_region_held_drew (S:=(fun W=>W.cell? ⟨w4.heap.size,0,none⟩=some (.int .i64 ik)∧W.cell? ⟨w4.heap.size,1,none⟩=some (.int .i64 ig)∧W.cell? ⟨w4.heap.size,2,none⟩=some (.int .i64 is)∧W.cell? ⟨w4.heap.size,3,none⟩=some (.slice D q d)∧W.cell? ⟨w.heap.size+1,1,none⟩=some (.slice (some ⟨bg,og,none⟩) gs.length cg)∧W.cell? ⟨bg,og+k,none⟩=some (.int .i64 g))) (by kernel_rfl) (vu h5) (fun hHeld=>?_);refine' wpAnyH_take (i:=0) (oi:=_) (v:=_) ?hi0b ?hs0b ?hf0b ?hr0b ?hQ0b (Or.inl ⟨?hw0b,?hy0b⟩) ?hS0b ?rest0b
       case hi0b=>((try simp only [sA,sC]);rfl)
       case hs0b=>kernel_rfl
       case hf0b=>kernel_rfl
       case hr0b=>kernel_rfl
       case hQ0b=>exact fun _ _ _ h=>h
       case hw0b=>rfl
       case hS0b=>assumption
       case hy0b=>(intro w h0;(try dsimp only at h0);go_simp;(try with_reducible rfl))
       (try simp only [Act.put,sD,sE,sF]);refine' wpAnyH_take (i:=1) (oi:=_) (v:=_) ?hi1b ?hs1b ?hf1b ?hr1b ?hQ1b (Or.inl ⟨?hw1b,?hy1b⟩) ?hS1b ?rest1b
       case hi1b=>((try simp only [sA,sB,sC]);rfl)
       case hs1b=>kernel_rfl
       case hf1b=>kernel_rfl
       case hr1b=>kernel_rfl
       case hQ1b=>exact fun _ _ _ h=>h
       case hw1b=>rfl
       case hS1b=>assumption
       case hy1b=>(intro w h0;(try dsimp only at h0);go_simp;(try with_reducible rfl))
       (try simp only [Act.put,sD,sE,sF]);refine' wpAnyH_take (i:=2) (oi:=_) (v:=_) ?hi2b ?hs2b ?hf2b ?hr2b ?hQ2b (Or.inl ⟨?hw2b,?hy2b⟩) ?hS2b ?rest2b
       case hi2b=>((try simp only [sA,sB,sC]);rfl)
       case hs2b=>kernel_rfl
       case hf2b=>kernel_rfl
       case hr2b=>kernel_rfl
       case hQ2b=>exact fun _ _ _ h=>h
       case hw2b=>rfl
       case hS2b=>assumption
       case hy2b=>(intro w h0;(try dsimp only at h0);go_simp;(try with_reducible rfl))
       (try simp only [Act.put,sD,sE,sF]);refine' wpAnyH_take (i:=3) (oi:=_) (v:=_) ?hi3b ?hs3b ?hf3b ?hr3b ?hQ3b (Or.inl ⟨?hw3b,?hy3b⟩) ?hS3b ?rest3b
       case hi3b=>((try simp only [sA,sB,sC]);rfl)
       case hs3b=>kernel_rfl
       case hf3b=>kernel_rfl
       case hr3b=>kernel_rfl
       case hQ3b=>exact fun _ _ _ h=>h
       case hw3b=>rfl
       case hS3b=>assumption
       case hy3b=>(intro w h0;(try dsimp only at h0);go_simp;(try with_reducible rfl))
       (try simp only [Act.put,sD,sE,sF]);refine' wpAnyH_take (i:=4) (oi:=_) (v:=_) ?hi4b ?hs4b ?hf4b ?hr4b ?hQ4b (Or.inl ⟨?hw4b,?hy4b⟩) ?hS4b ?rest4b
       case hi4b=>((try simp only [sA,sB,sC]);rfl)
       case hs4b=>kernel_rfl
       case hf4b=>kernel_rfl
       case hr4b=>kernel_rfl
       case hQ4b=>exact fun _ _ _ h=>h
       case hw4b=>rfl
       case hS4b=>assumption
       case hy4b=>(intro w h0;(try dsimp only at h0);go_simp;(try with_reducible rfl))
       (try simp only [Act.put,sD,sE,sF]);refine' wpAnyH_take (i:=5) (oi:=_) (v:=_) ?hi5b ?hs5b ?hf5b ?hr5b ?hQ5b (Or.inl ⟨?hw5b,?hy5b⟩) ?hS5b ?rest5b
       case hi5b=>((try simp only [sA,sB,sC]);rfl)
       case hs5b=>kernel_rfl
       case hf5b=>kernel_rfl
       case hr5b=>kernel_rfl
       case hQ5b=>exact fun _ _ _ h=>h
       case hw5b=>rfl
       case hS5b=>assumption
       case hy5b=>(intro w h0;(try dsimp only at h0);go_simp;(try with_reducible rfl))
       (try simp only [Act.put,sD,sE,sF]);refine' wpAnyH_take (i:=6) (oi:=_) (v:=_) ?hi6b ?hs6b ?hf6b ?hr6b ?hQ6b (Or.inl ⟨?hw6b,?hy6b⟩) ?hS6b ?rest6b
       case hi6b=>((try simp only [sA,sB,sC]);rfl)
       case hs6b=>kernel_rfl
       case hf6b=>kernel_rfl
       case hr6b=>kernel_rfl
       case hQ6b=>exact fun _ _ _ h=>h
       case hw6b=>rfl
       case hS6b=>assumption
       case hy6b=>(intro w h0;(try dsimp only at h0);go_simp;(try with_reducible rfl))
       (try simp only [Act.put,sD,sE,sF]);refine' wpAnyH_take (i:=7) (oi:=_) (v:=_) ?hi7b ?hs7b ?hf7b ?hr7b ?hQ7b (Or.inl ⟨?hw7b,?hy7b⟩) ?hS7b ?rest7b
       case hi7b=>((try simp only [sA,sB,sC]);rfl)
       case hs7b=>kernel_rfl
       case hf7b=>kernel_rfl
       case hr7b=>kernel_rfl
       case hQ7b=>exact fun _ _ _ h=>h
       case hw7b=>rfl
       case hS7b=>assumption
       case hy7b=>(intro w h0;(try dsimp only at h0);go_simp;(try with_reducible rfl))
       (try simp only [Act.put,sD,sE,sF]);refine' wpAnyH_take (i:=8) (oi:=_) (v:=_) ?hi8b ?hs8b ?hf8b ?hr8b ?hQ8b (Or.inl ⟨?hw8b,?hy8b⟩) ?hS8b ?rest8b
       case hi8b=>((try simp only [sA,sB,sC]);rfl)
       case hs8b=>kernel_rfl
       case hf8b=>kernel_rfl
       case hr8b=>kernel_rfl
       case hQ8b=>exact fun _ _ _ h=>h
       case hw8b=>rfl
       case hS8b=>assumption
       case hy8b=>(intro w h0;(try dsimp only at h0);go_simp;(try with_reducible rfl))
       (try simp only [Act.put,sD,sE,sF]);refine' wpAnyH_take (i:=9) (oi:=_) (v:=_) ?hi9b ?hs9b ?hf9b ?hr9b ?hQ9b (Or.inl ⟨?hw9b,?hy9b⟩) ?hS9b ?rest9b
       case hi9b=>((try simp only [sA,sB,sC]);rfl)
       case hs9b=>kernel_rfl
       case hf9b=>kernel_rfl
       case hr9b=>kernel_rfl
       case hQ9b=>exact fun _ _ _ h=>h
       case hw9b=>rfl
       case hS9b=>assumption
       case hy9b=>(intro w h0;(try dsimp only at h0);go_simp;(try with_reducible rfl))
       (try simp only [Act.put,sD,sE,sF]);refine' wpAnyH_take (i:=10) (oi:=_) (v:=_) ?hi10b ?hs10b ?hf10b ?hr10b ?hQ10b (Or.inl ⟨?hw10b,?hy10b⟩) ?hS10b ?rest10b
       case hi10b=>((try simp only [sA,sB,sC]);rfl)
       case hs10b=>kernel_rfl
       case hf10b=>kernel_rfl
       case hr10b=>kernel_rfl
       case hQ10b=>exact fun _ _ _ h=>h
       case hw10b=>rfl
       case hS10b=>assumption
       case hy10b=>(intro w h0;(try dsimp only at h0);go_simp;(try with_reducible rfl))
       (try simp only [Act.put,sD,sE,sF]);refine' wpAnyH_take (i:=11) (oi:=_) (v:=_) ?hi11b ?hs11b ?hf11b ?hr11b ?hQ11b (Or.inl ⟨?hw11b,?hy11b⟩) ?hS11b ?rest11b
       case hi11b=>((try simp only [sA,sB,sC]);rfl)
       case hs11b=>kernel_rfl
       case hf11b=>kernel_rfl
       case hr11b=>kernel_rfl
       case hQ11b=>exact fun _ _ _ h=>h
       case hw11b=>rfl
       case hS11b=>assumption
       case hy11b=>(intro w h0;(try dsimp only at h0);go_simp;(try with_reducible rfl))
       (try simp only [Act.put,sD,sE,sF]);refine' wpAnyH_take (i:=12) (oi:=_) (v:=_) ?hi12b ?hs12b ?hf12b ?hr12b ?hQ12b (Or.inl ⟨?hw12b,?hy12b⟩) ?hS12b ?rest12b
       case hi12b=>((try simp only [sA,sB,sC]);rfl)
       case hs12b=>kernel_rfl
       case hf12b=>kernel_rfl
       case hr12b=>kernel_rfl
       case hQ12b=>exact fun _ _ _ h=>h
       case hw12b=>rfl
       case hS12b=>assumption
       case hy12b=>(intro w h0;(try dsimp only at h0);go_simp;(try with_reducible rfl))
       (try simp only [Act.put,sD,sE,sF]);refine wpAnyH_ready (rs:=[13]) (by kernel_rfl) (by simp) ?_;refine AllReadyH.cons rfl (fun K hK=>?_) AllReadyH.nil;go_simp;refine hK.out _ _ (vu (J5 NN.o h5)) (fun hHeld2=>?_);clear hK K;refine' wpAnyH_take (i:=14) (oi:=_) (v:=_) ?hi14b ?hs14b ?hf14b ?hr14b ?hQ14b (Or.inl ⟨?hw14b,?hy14b⟩) ?hS14b ?rest14b
       case hi14b=>((try simp only [sA,sB,sC]);rfl)
       case hs14b=>kernel_rfl
       case hf14b=>kernel_rfl
       case hr14b=>kernel_rfl
       case hQ14b=>exact fun _ _ _ h=>h
       case hw14b=>rfl
       case hS14b=>assumption
       case hy14b=>(intro w h0;(try dsimp only at h0);go_simp;(try with_reducible rfl))
       (try simp only [Act.put,sD,sE,sF]);refine wpAnyH_done (by kernel_rfl) ?_ _;refine NoPanic.normal ?_
       all_goals
        have hm:=b9 (j:=3) (v:=.slice D q d) (b9 (j:=2) (v:=.int .i64 is) (b9 (j:=1) (v:=.int .i64 ig) (b9 (j:=0) (v:=.int .i64 ik) hw.o)));have ha:Hid (((((w5.setCell ⟨w.heap.size+1+1,0,none⟩ (.int .i64 ik)).setCell ⟨w.heap.size+1+1,1,none⟩ (.int .i64 ig)).setCell ⟨w.heap.size+1+1,2,none⟩ (.int .i64 is)).setCell ⟨w.heap.size+1+1,3,none⟩ (.slice D q d)).drew.heap[w.heap.size+1+1]?=some (.cells #[.int .i64 ik,.int .i64 ig,.int .i64 is,.slice D q d] 67 (0,0))):=hm;have h3:∀b o,D=some ⟨b,o,none⟩→0 <q→b≠w.heap.size+1+1:=fun b o e _ e2=>by have h1:=hn.o _ e;have h2:=h9.o;simp only at h1;omega
        have R9:Hid (ab ((((w5.setCell ⟨w.heap.size+1+1,0,none⟩ (.int .i64 ik)).setCell ⟨w.heap.size+1+1,1,none⟩ (.int .i64 ig)).setCell ⟨w.heap.size+1+1,2,none⟩ (.int .i64 is)).setCell ⟨w.heap.size+1+1,3,none⟩ (.slice D q d)).drew ((((w5.setCell ⟨w.heap.size+1+1,0,none⟩ (.int .i64 ik)).setCell ⟨w.heap.size+1+1,1,none⟩ (.int .i64 ig)).setCell ⟨w.heap.size+1+1,2,none⟩ (.int .i64 is)).setCell ⟨w.heap.size+1+1,3,none⟩ (.slice D q d)).drew.heap.size D q d aa.cells 2 ip):=
         ((dj (z:=3) (dj (z:=2) (dj (z:=1) (dj (z:=0) R5.o h3 _) h3 _) h3 _) h3 _).more (by simp [World.setCell])).drew
        have hc:Hid (Below w.heap.size w ((((w5.setCell ⟨w.heap.size+1+1,0,none⟩ (.int .i64 ik)).setCell ⟨w.heap.size+1+1,1,none⟩ (.int .i64 ig)).setCell ⟨w.heap.size+1+1,2,none⟩ (.int .i64 is)).setCell ⟨w.heap.size+1+1,3,none⟩ (.slice D q d)).drew):=(((((h4.o.trans (ht.o.mono h4.o.size)).setCell (p:=⟨w.heap.size+1+1,0,none⟩) (by simp only;omega) _).setCell (p:=⟨w.heap.size+1+1,1,none⟩) (by simp only;omega) _).setCell (p:=⟨w.heap.size+1+1,2,none⟩) (by simp only;omega) _).setCell (p:=⟨w.heap.size+1+1,3,none⟩) (by simp only;omega) _).drew;clear hm h3 h5 l0 l1 l2 l3 l4 l5 l6 l7 x0 x1 x2 x3 x4 x5 x6 x7;generalize((((w5.setCell ⟨w.heap.size+1+1,0,none⟩ (.int .i64 ik)).setCell ⟨w.heap.size+1+1,1,none⟩ (.int .i64 ig)).setCell ⟨w.heap.size+1+1,2,none⟩ (.int .i64 is)).setCell ⟨w.heap.size+1+1,3,none⟩ (.slice D q d)).drew=w9 at*;go_wp2;refine bodyPost_ret (cv rfl _ _ (w.heap.size+1+1) _ #[.int .i64 ik,.int .i64 ig,.int .i64 is,.slice D q d] (0,0) _ rfl ha.o Tryz.underlying67 rfl du) rfl ?_;exact h8.o (fun h=>hig h.2.2.2.2) _ hc.o _ _ _ _ _ _
     ·have g1:(ie==0)=false:=bF hie;refine wp_region_noPanic ?_;refine wp_region_held_drew (S:=(fun W=>W.cell? ⟨w4.heap.size,0,none⟩=some (.int .i64 ik)∧W.cell? ⟨w4.heap.size,1,none⟩=some (.int .i64 ig)∧W.cell? ⟨w4.heap.size,2,none⟩=some (.int .i64 is)∧W.cell? ⟨w4.heap.size,3,none⟩=some (.slice D q d)∧W.cell? ⟨w.heap.size+1,1,none⟩=some (.slice (some ⟨bg,og,none⟩) gs.length cg)∧W.cell? ⟨bg,og+k,none⟩=some (.int .i64 g))) (by kernel_rfl) (vu h5) (fun hHeld=>?_);refine' wpAnyH_take (i:=0) (oi:=_) (v:=_) ?hi0c ?hs0c ?hf0c ?hr0c ?hQ0c (Or.inl ⟨?hw0c,?hy0c⟩) ?hS0c ?rest0c
      case hi0c=>((try simp only [sA,sC]);rfl)
      case hs0c=>kernel_rfl
      case hf0c=>kernel_rfl
      case hr0c=>kernel_rfl
      case hQ0c=>exact fun _ _ _ h=>h
      case hw0c=>rfl
      case hS0c=>assumption
      case hy0c=>(intro w h0;(try dsimp only at h0);go_simp;(try with_reducible rfl))
      (try simp only [Act.put,sD,sE,sF]);refine' wpAnyH_take (i:=1) (oi:=_) (v:=_) ?hi1c ?hs1c ?hf1c ?hr1c ?hQ1c (Or.inl ⟨?hw1c,?hy1c⟩) ?hS1c ?rest1c
      case hi1c=>((try simp only [sA,sB,sC]);rfl)
      case hs1c=>kernel_rfl
      case hf1c=>kernel_rfl
      case hr1c=>kernel_rfl
      case hQ1c=>exact fun _ _ _ h=>h
      case hw1c=>rfl
      case hS1c=>assumption
      case hy1c=>(intro w h0;(try dsimp only at h0);go_simp;(try with_reducible rfl))
      (try simp only [Act.put,sD,sE,sF]);refine' wpAnyH_take (i:=2) (oi:=_) (v:=_) ?hi2c ?hs2c ?hf2c ?hr2c ?hQ2c (Or.inl ⟨?hw2c,?hy2c⟩) ?hS2c ?rest2c
      case hi2c=>((try simp only [sA,sB,sC]);rfl)
      case hs2c=>kernel_rfl
      case hf2c=>kernel_rfl
      case hr2c=>kernel_rfl
      case hQ2c=>exact fun _ _ _ h=>h
      case hw2c=>rfl
      case hS2c=>assumption
      case hy2c=>(intro w h0;(try dsimp only at h0);go_simp;(try with_reducible rfl))
      (try simp only [Act.put,sD,sE,sF]);refine' wpAnyH_take (i:=3) (oi:=_) (v:=_) ?hi3c ?hs3c ?hf3c ?hr3c ?hQ3c (Or.inl ⟨?hw3c,?hy3c⟩) ?hS3c ?rest3c
      case hi3c=>((try simp only [sA,sB,sC]);rfl)
      case hs3c=>kernel_rfl
      case hf3c=>kernel_rfl
      case hr3c=>kernel_rfl
      case hQ3c=>exact fun _ _ _ h=>h
      case hw3c=>rfl
      case hS3c=>assumption
      case hy3c=>(intro w h0;(try dsimp only at h0);go_simp;(try with_reducible rfl))
      (try simp only [Act.put,sD,sE,sF]);refine' wpAnyH_take (i:=4) (oi:=_) (v:=undef) ?hi4c ?hs4c ?hf4c ?hr4c ?hQ4c (Or.inr ⟨?hw4c,rfl⟩) ?hS4c ?rest4c
      case hi4c=>((try simp only [sA,sB,sC]);rfl)
      case hs4c=>kernel_rfl
      case hf4c=>kernel_rfl
      case hr4c=>kernel_rfl
      case hQ4c=>exact fun _ _ _ h=>h
      case hw4c=>rfl
      case hS4c=>assumption
      (try simp only [Act.put,sD,sE,sF]);refine' wpAnyH_take (i:=5) (oi:=_) (v:=undef) ?hi5c ?hs5c ?hf5c ?hr5c ?hQ5c (Or.inr ⟨?hw5c,rfl⟩) ?hS5c ?rest5c
      case hi5c=>((try simp only [sA,sB,sC]);rfl)
      case hs5c=>kernel_rfl
      case hf5c=>kernel_rfl
      case hr5c=>kernel_rfl
      case hQ5c=>exact fun _ _ _ h=>h
      case hw5c=>rfl
      case hS5c=>assumption
      (try simp only [Act.put,sD,sE,sF]);refine' wpAnyH_take (i:=6) (oi:=_) (v:=undef) ?hi6c ?hs6c ?hf6c ?hr6c ?hQ6c (Or.inr ⟨?hw6c,rfl⟩) ?hS6c ?rest6c
      case hi6c=>((try simp only [sA,sB,sC]);rfl)
      case hs6c=>kernel_rfl
      case hf6c=>kernel_rfl
      case hr6c=>kernel_rfl
      case hQ6c=>exact fun _ _ _ h=>h
      case hw6c=>rfl
      case hS6c=>assumption
      (try simp only [Act.put,sD,sE,sF]);refine' wpAnyH_take (i:=7) (oi:=_) (v:=undef) ?hi7c ?hs7c ?hf7c ?hr7c ?hQ7c (Or.inr ⟨?hw7c,rfl⟩) ?hS7c ?rest7c
      case hi7c=>((try simp only [sA,sB,sC]);rfl)
      case hs7c=>kernel_rfl
      case hf7c=>kernel_rfl
      case hr7c=>kernel_rfl
      case hQ7c=>exact fun _ _ _ h=>h
      case hw7c=>rfl
      case hS7c=>assumption
      (try simp only [Act.put,sD,sE,sF]);refine' wpAnyH_take (i:=8) (oi:=_) (v:=undef) ?hi8c ?hs8c ?hf8c ?hr8c ?hQ8c (Or.inr ⟨?hw8c,rfl⟩) ?hS8c ?rest8c
      case hi8c=>((try simp only [sA,sB,sC]);rfl)
      case hs8c=>kernel_rfl
      case hf8c=>kernel_rfl
      case hr8c=>kernel_rfl
      case hQ8c=>exact fun _ _ _ h=>h
      case hw8c=>rfl
      case hS8c=>assumption
      (try simp only [Act.put,sD,sE,sF]);refine' wpAnyH_take (i:=9) (oi:=_) (v:=undef) ?hi9c ?hs9c ?hf9c ?hr9c ?hQ9c (Or.inr ⟨?hw9c,rfl⟩) ?hS9c ?rest9c
      case hi9c=>((try simp only [sA,sB,sC]);rfl)
      case hs9c=>kernel_rfl
      case hf9c=>kernel_rfl
      case hr9c=>kernel_rfl
      case hQ9c=>exact fun _ _ _ h=>h
      case hw9c=>rfl
      case hS9c=>assumption
      (try simp only [Act.put,sD,sE,sF]);refine' wpAnyH_take (i:=10) (oi:=_) (v:=undef) ?hi10c ?hs10c ?hf10c ?hr10c ?hQ10c (Or.inr ⟨?hw10c,rfl⟩) ?hS10c ?rest10c
      case hi10c=>((try simp only [sA,sB,sC]);rfl)
      case hs10c=>kernel_rfl
      case hf10c=>kernel_rfl
      case hr10c=>kernel_rfl
      case hQ10c=>exact fun _ _ _ h=>h
      case hw10c=>rfl
      case hS10c=>assumption
      (try simp only [Act.put,sD,sE,sF]);refine' wpAnyH_take (i:=11) (oi:=_) (v:=undef) ?hi11c ?hs11c ?hf11c ?hr11c ?hQ11c (Or.inr ⟨?hw11c,rfl⟩) ?hS11c ?rest11c
      case hi11c=>((try simp only [sA,sB,sC]);rfl)
      case hs11c=>kernel_rfl
      case hf11c=>kernel_rfl
      case hr11c=>kernel_rfl
      case hQ11c=>exact fun _ _ _ h=>h
      case hw11c=>rfl
      case hS11c=>assumption
      (try simp only [Act.put,sD,sE,sF]);refine' wpAnyH_take (i:=12) (oi:=_) (v:=_) ?hi12c ?hs12c ?hf12c ?hr12c ?hQ12c (Or.inl ⟨?hw12c,?hy12c⟩) ?hS12c ?rest12c
      case hi12c=>((try simp only [sA,sB,sC]);rfl)
      case hs12c=>kernel_rfl
      case hf12c=>kernel_rfl
      case hr12c=>kernel_rfl
      case hQ12c=>exact fun _ _ _ h=>h
      case hw12c=>rfl
      case hS12c=>assumption
      case hy12c=>(intro w h0;(try dsimp only at h0);go_simp;(try with_reducible rfl))
      (try simp only [Act.put,sD,sE,sF]);refine wpAnyH_ready (rs:=[13]) (by kernel_rfl) (by simp) ?_;refine AllReadyH.cons rfl (fun K hK=>?_) AllReadyH.nil;go_simp;refine hK.out _ _ (vu (J5 NN.o h5)) (fun hHeld2=>?_);clear hK K;refine' wpAnyH_take (i:=14) (oi:=_) (v:=_) ?hi14c ?hs14c ?hf14c ?hr14c ?hQ14c (Or.inl ⟨?hw14c,?hy14c⟩) ?hS14c ?rest14c
      case hi14c=>((try simp only [sA,sB,sC]);rfl)
      case hs14c=>kernel_rfl
      case hf14c=>kernel_rfl
      case hr14c=>kernel_rfl
      case hQ14c=>exact fun _ _ _ h=>h
      case hw14c=>rfl
      case hS14c=>assumption
      case hy14c=>(intro w h0;(try dsimp only at h0);go_simp;(try with_reducible rfl))
      (try simp only [Act.put,sD,sE,sF]);refine wpAnyH_done (by kernel_rfl) ?_ _;refine NoPanic.normal ?_
      all_goals
       have hm:=b9 (j:=3) (v:=.slice D q d) (b9 (j:=2) (v:=.int .i64 is) (b9 (j:=1) (v:=.int .i64 ig) (b9 (j:=0) (v:=.int .i64 ik) hw.o)));have ha:Hid (((((w5.setCell ⟨w.heap.size+1+1,0,none⟩ (.int .i64 ik)).setCell ⟨w.heap.size+1+1,1,none⟩ (.int .i64 ig)).setCell ⟨w.heap.size+1+1,2,none⟩ (.int .i64 is)).setCell ⟨w.heap.size+1+1,3,none⟩ (.slice D q d)).drew.heap[w.heap.size+1+1]?=some (.cells #[.int .i64 ik,.int .i64 ig,.int .i64 is,.slice D q d] 67 (0,0))):=hm;have h3:∀b o,D=some ⟨b,o,none⟩→0 <q→b≠w.heap.size+1+1:=fun b o e _ e2=>by have h1:=hn.o _ e;have h2:=h9.o;simp only at h1;omega
       have R9:Hid (ab ((((w5.setCell ⟨w.heap.size+1+1,0,none⟩ (.int .i64 ik)).setCell ⟨w.heap.size+1+1,1,none⟩ (.int .i64 ig)).setCell ⟨w.heap.size+1+1,2,none⟩ (.int .i64 is)).setCell ⟨w.heap.size+1+1,3,none⟩ (.slice D q d)).drew ((((w5.setCell ⟨w.heap.size+1+1,0,none⟩ (.int .i64 ik)).setCell ⟨w.heap.size+1+1,1,none⟩ (.int .i64 ig)).setCell ⟨w.heap.size+1+1,2,none⟩ (.int .i64 is)).setCell ⟨w.heap.size+1+1,3,none⟩ (.slice D q d)).drew.heap.size D q d aa.cells 2 ip):=
        ((dj (z:=3) (dj (z:=2) (dj (z:=1) (dj (z:=0) R5.o h3 _) h3 _) h3 _) h3 _).more (by simp [World.setCell])).drew
       have hc:Hid (Below w.heap.size w ((((w5.setCell ⟨w.heap.size+1+1,0,none⟩ (.int .i64 ik)).setCell ⟨w.heap.size+1+1,1,none⟩ (.int .i64 ig)).setCell ⟨w.heap.size+1+1,2,none⟩ (.int .i64 is)).setCell ⟨w.heap.size+1+1,3,none⟩ (.slice D q d)).drew):=(((((h4.o.trans (ht.o.mono h4.o.size)).setCell (p:=⟨w.heap.size+1+1,0,none⟩) (by simp only;omega) _).setCell (p:=⟨w.heap.size+1+1,1,none⟩) (by simp only;omega) _).setCell (p:=⟨w.heap.size+1+1,2,none⟩) (by simp only;omega) _).setCell (p:=⟨w.heap.size+1+1,3,none⟩) (by simp only;omega) _).drew;clear hm h3 h5 l0 l1 l2 l3 l4 l5 l6 l7 x0 x1 x2 x3 x4 x5 x6 x7;generalize((((w5.setCell ⟨w.heap.size+1+1,0,none⟩ (.int .i64 ik)).setCell ⟨w.heap.size+1+1,1,none⟩ (.int .i64 ig)).setCell ⟨w.heap.size+1+1,2,none⟩ (.int .i64 is)).setCell ⟨w.heap.size+1+1,3,none⟩ (.slice D q d)).drew=w9 at*;go_wp2;refine bodyPost_ret (cv rfl _ _ (w.heap.size+1+1) _ #[.int .i64 ik,.int .i64 ig,.int .i64 is,.slice D q d] (0,0) _ rfl ha.o Tryz.underlying67 rfl du) rfl ?_;exact h8.o (fun h=>hie h.2.2.2.1) _ hc.o _ _ _ _ _ _
    ·have g1:(bi !=(k:Int))=true:=bN hbi;clear hbi;go_wp2_with(refine wpList_store_rowTo rfl _ _ _ rfl rfl (w.heap.size+1+1) bf rfl rfl 67 bf v7.o du rfl hv.o ?_);refine bodyPost_ret (cv rfl _ _ (w.heap.size+1+1) _ bf (0,0) _ rfl (bh v7.o) Tryz.underlying67 rfl du) rfl ?_;exact h8.o (fun h=>by have:=h.2.2.1;revert g1;rw [this];simp) _ (below_setRow (h4.o.trans (HB.o.mono h4.o.size)) (by omega) _) 0 0 0 none 0 0
   ·have g1:(bk !=2)=true:=bN hk2;go_wp2_with(refine wpList_store_rowTo rfl _ _ _ rfl rfl (w.heap.size+1+1) bf rfl rfl 67 bf v7.o du rfl hv.o ?_);refine bodyPost_ret (cv rfl _ _ (w.heap.size+1+1) _ bf (0,0) _ rfl (bh v7.o) Tryz.underlying67 rfl du) rfl ?_;exact h8.o (fun h=>hk2 h.2.1) _ (below_setRow (h4.o.trans (HB.o.mono h4.o.size)) (by omega) _) 0 0 0 none 0 0
  ·have g1:(E !=0)=true:=bN hE;go_wp2_with(refine wpList_store_rowTo rfl _ _ _ rfl rfl (w.heap.size+1+1) bf rfl rfl 67 bf v7.o du rfl hv.o ?_);refine bodyPost_ret (cv rfl _ _ (w.heap.size+1+1) _ bf (0,0) _ rfl (bh v7.o) Tryz.underlying67 rfl du) rfl ?_;exact h8.o (fun h=>hE h.1) _ (below_setRow (h4.o.trans (HB.o.mono h4.o.size)) (by omega) _) 0 0 0 none 0 0
theorem w0w(A:Option Addr)(n c:Nat)(cs:List ByteArray)(A':Option Addr)(n' c':Nat)(ws:List ae)(Am:Option Addr)(nm cm:Nat)(xs:List aa)(Ag:Option Addr)(ng cg:Nat)(gs:List Int)(k:Nat)(pc pn g:Int)(w:World)(r:ab w w.heap.size A n c (fun z=>[.string z]) 1 cs)(r':ab w w.heap.size A' n' c' ae.cells 2 ws)(rm:ab w w.heap.size Am nm cm aa.cells 2 xs)(rg:ab w w.heap.size Ag ng cg (fun z=>[.int .i64 z]) 1 gs)(hd:au cs ws=0)(hp:xs[k]?=some ⟨pc,pn⟩)(hg:gs[k]?=some g):Calls Tryz.prog 40 #[.agg #[.slice A n c,.slice A' n' c'],.agg #[.slice Am nm cm,.slice Ag ng cg],.int .i64 k] w (Fb cs ws k ⟨pc,pn⟩ g w):=
 (Yr A n c cs A' n' c' ws Am nm cm xs Ag ng cg gs k pc pn g w r r' rm rg hd hp hg).mono fun _ _ h=>h.weak
end Go.Proofs.YtcldpfhpkbeaiadGreat
