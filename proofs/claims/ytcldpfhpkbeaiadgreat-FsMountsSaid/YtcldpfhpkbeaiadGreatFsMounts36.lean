/- A part of the proof of FsMounts. No condition of ours. -/
import Derived.Test.YtcldpfhpkbeaiadGreatFsMounts34
import Derived.Test.YtcldpfhpkbeaiadGreatFsMounts21
import Derived.Deep.CutBlock
set_option maxRecDepth 20000
set_option maxHeartbeats 2000000
namespace Go.Proofs.YtcldpfhpkbeaiadGreat
open Go.RowKit
theorem Ge{xs:List aa}{gs:List Int}{n:Int}{p:aa}{e:Int}(h:jg xs gs n p=e)(he:e≠0):n7 xs gs n p=[]∧n8 xs gs n p=[]:=by unfold n7 n8;rw [h,if_neg he,if_neg he];exact⟨rfl,rfl⟩
theorem c0y{xs:List aa}{gs:List Int}{n:Int}{p:aa}(h:bu xs gs≠0):jg xs gs n p=4:=by unfold jg;rw [if_pos h]
theorem Og{xs:List aa}{gs:List Int}{n:Int}{p:aa}(h:bu xs gs=0)(hn:n <0∨48≤n∨dk p.Cell p.Nth=false∨p.Cell=0):jg xs gs n p=1:=by unfold jg;rw [if_neg (by simp [h]),if_pos hn]
theorem c0x{xs:List aa}{gs:List Int}{k:Nat}{p:aa}(h:bu xs gs=0)(hk:k <48)(hr:dk p.Cell p.Nth=true)(h0:p.Cell≠0):jg xs gs k p=0∧n7 xs gs k p=xs.set k p∧n8 xs gs k p=gs:=by
 have e:jg xs gs k p=0:=by
  unfold jg;rw [if_neg (by simp [h]),if_neg (fun hh=>by
  rcases hh with h1|h1|h1|h1
  ·omega
  ·omega
  ·rw [hr]at h1;cases h1
  ·exact h0 h1)]
 exact⟨e,by unfold n7;rw [if_pos e,Int.toNat_natCast],by unfold n8;rw [if_pos e]⟩
theorem c0z{w1 w2 w3:World}{R:Nat}{xs:List aa}{gs:List Int}{g1 off1 d g2 off2 d' k:Nat}{pc pn x y:Int}{t:TypeId}(E1:xs[k]?=some (⟨pc,pn⟩:aa))(o1:af w2 w1.heap.size 2 (.slice (some ⟨g1,off1,none⟩) 48 d) 48 (xs.flatMap aa.cells))(o2:af w2 w1.heap.size 1 (.slice (some ⟨g2,off2,none⟩) 48 d') 48 (gs.map (Value.int .i64)))(ap:gq (.slice (some ⟨g1,off1,none⟩) 48 d) (.slice (some ⟨g2,off2,none⟩) 48 d'))(hw:(w2.alloc (.cells b8 t)).setRow w2.heap.size #[.slice (some ⟨g1,off1,none⟩) 48 d,.slice (some ⟨g2,off2,none⟩) 48 d']=w3)(hr:w1.heap[R]?=some (.cells b8 t (0,0)))(hb2:Below w1.heap.size w1 w2):(w3.cell? ⟨w2.heap.size,0,none⟩=some (.slice (some ⟨g1,off1,none⟩) 48 d)∧w3.cell? ⟨g1,off1+k*2,none⟩=some (.int .i64 pc)∧w3.frozen? ⟨g1,off1+k*2,none⟩=false∧(w3.setCell ⟨g1,off1+k*2,none⟩ (.int .i64 x)).cell? ⟨g1,off1+k*2+1,none⟩=some (.int .i64 pn)∧w3.frozen? ⟨g1,off1+k*2+1,none⟩=false∧w3.cell? ⟨g1,off1+k*2+1,none⟩=some (.int .i64 pn)∧((w3.setCell ⟨g1,off1+k*2,none⟩ (.int .i64 x)).setCell ⟨g1,off1+k*2+1,none⟩ (.int .i64 y)).cell? ⟨w2.heap.size,0,none⟩=some (.slice (some ⟨g1,off1,none⟩) 48 d)∧((w3.setCell ⟨g1,off1+k*2,none⟩ (.int .i64 x)).setCell ⟨g1,off1+k*2+1,none⟩ (.int .i64 y)).cell? ⟨w2.heap.size,1,none⟩=some (.slice (some ⟨g2,off2,none⟩) 48 d')∧((w3.setCell ⟨g1,off1+k*2,none⟩ (.int .i64 x)).setCell ⟨g1,off1+k*2+1,none⟩ (.int .i64 y)).heap[R]?=some (.cells b8 t (0,0))∧True)∧af ((w3.setCell ⟨g1,off1+k*2,none⟩ (.int .i64 x)).setCell ⟨g1,off1+k*2+1,none⟩ (.int .i64 y)) w1.heap.size 2 (.slice (some ⟨g1,off1,none⟩) 48 d) 48 ((xs.set k ⟨x,y⟩).flatMap aa.cells)∧af ((w3.setCell ⟨g1,off1+k*2,none⟩ (.int .i64 x)).setCell ⟨g1,off1+k*2+1,none⟩ (.int .i64 y)) w1.heap.size 1 (.slice (some ⟨g2,off2,none⟩) 48 d') 48 (gs.map (Value.int .i64))∧Below w1.heap.size w1 ((w3.setCell ⟨g1,off1+k*2,none⟩ (.int .i64 x)).setCell ⟨g1,off1+k*2+1,none⟩ (.int .i64 y))∧Below w2.heap.size w2 w3:=by
 have h5:=hb2.size;have h3:=ag hr;have h2:w3.heap[w2.heap.size]?=some (.cells #[.slice (some ⟨g1,off1,none⟩) 48 d,.slice (some ⟨g2,off2,none⟩) 48 d'] t (0,0)):=by rw [←hw];exact bh (A_ w2 _)
 have h0:Below w2.heap.size w2 w3:=by rw [←hw];exact below_setRow (br.alloc ler _) ler _
 have b1:=o1.lt g1 rfl;have b2:=o2.lt g2 rfl;have h1:g1≠g2:=fun e=>ap g1 rfl (by rw [e];rfl)
 have q1:=o1.fresh_below h0;have q2:=o2.fresh_below h0
 have e1:(xs.flatMap aa.cells)[k*2]?=some (.int .i64 pc):=by have:=nw (enc:=aa.cells) (k:=2) (fun _=>rfl) xs k _ E1 0 (.int .i64 pc) rfl;simpa using this
 have e2:(xs.flatMap aa.cells)[k*2+1]?=some (.int .i64 pn):=nw (enc:=aa.cells) (k:=2) (fun _=>rfl) xs k _ E1 1 (.int .i64 pn) rfl;obtain⟨c1,f1⟩:=q1.here e1;obtain⟨c2,f2⟩:=q1.here e2;rw [←Nat.add_assoc]at c2 f2;have h4:(⟨g1,off1+k*2,none⟩:Addr)≠⟨g1,off1+k*2+1,none⟩:=fun e=>by injection e with _ e;omega
 have na:∀(x y:Nat) (z z':Nat),x≠y→(⟨x,z,none⟩:Addr)≠⟨y,z',none⟩:=fun x y z z' h e=>h (by injection e)
 have k1:∀ {p:Addr} {v:Value},(⟨g1,off1+k*2,none⟩:Addr)≠p→(⟨g1,off1+k*2+1,none⟩:Addr)≠p→w3.cell? p=some v→((w3.setCell ⟨g1,off1+k*2,none⟩ (.int .i64 x)).setCell ⟨g1,off1+k*2+1,none⟩ (.int .i64 y)).cell? p=some v:=fun h h' hv=>(World.cell?_setCell_other _ _ _ _ h').trans ((World.cell?_setCell_other _ _ _ _ h).trans hv)
 have m0:=rc0 h2;have m1:=rc1 h2;have s1:=(q1.set (k*2) (.int .i64 x)).set (k*2+1) (.int .i64 y);rw [←Nat.add_assoc]at s1;have s3:=((q2.setOther (p:=⟨g1,off1+k*2,none⟩) (fun e=>h1 (by simpa [Value.ownBlock]using e.symm)) (.int .i64 x)).setOther (p:=⟨g1,off1+k*2+1,none⟩) (fun e=>h1 (by simpa [Value.ownBlock]using e.symm)) (.int .i64 y));have h6:w3.heap[R]?=some (.cells b8 t (0,0)):=ah (ah hr h3 hb2) (show R <w2.heap.size by omega) h0;refine⟨⟨m0,c1,f1,(World.cell?_setCell_other _ _ _ _ h4).trans c2,f2,c2,k1 (na _ _ _ _ (by omega)) (na _ _ _ _ (by omega)) m0,k1 (na _ _ _ _ (by omega)) (na _ _ _ _ (by omega)) m1,cp (cp h6 (show R≠g1 by omega)) (show R≠g1 by omega),trivial⟩,?_,s3,?_,h0⟩
 ·have:=Dj xs k ⟨x,y⟩;simp only at this;rw [←this];exact s1
 ·exact((hb2.trans (h0.mono h5)).setCell (show w1.heap.size≤g1 by omega) _).setCell (show w1.heap.size≤g1 by omega) _
theorem kn{W W':World}{p:Addr}{v:Value}(h:W.cell? p=some v)(hp:p.block <W.heap.size)(hb:Below W.heap.size W W'):W'.cell? p=some v:=(hb.cell (p:=p) hp).trans h
theorem d0a(A:Option Addr)(n c:Nat)(xs:List aa)(A':Option Addr)(n' c':Nat)(gs:List Int)(m x y:Int)(w:World)(r:ab w w.heap.size A n c aa.cells 2 xs)(r':ab w w.heap.size A' n' c' (fun z=>[.int .i64 z]) 1 gs):Calls Tryz.prog 26 #[.agg #[.slice A n c,.slice A' n' c'],.int .i64 m,.agg #[.int .i64 x,.int .i64 y]] w (Av (jg xs gs m ⟨x,y⟩) (n7 xs gs m ⟨x,y⟩) (n8 xs gs m ⟨x,y⟩) w):=by
 obtain⟨wa,ha⟩:∃wa,wa=((w.alloc (.cells #[.slice A n c,.slice A' n' c'] 43)).alloc (.cells #[.int .i64 x,.int .i64 y] 89)).alloc (.cells b8 43):=⟨_,rfl⟩;have hu:wa.heap.size=w.heap.size+3:=by rw [ha];simp
 have hj:Below w.heap.size w wa:=by rw [ha];exact((br.alloc ler _).alloc (by simp) _).alloc (by simp;omega) _
 have hw:wa.heap[w.heap.size+1+1]?=some (.cells b8 43 (0,0)):=by rw [ha];have:=A_ ((w.alloc (.cells #[.slice A n c,.slice A' n' c'] 43)).alloc (.cells #[.int .i64 x,.int .i64 y] 89)) (.cells b8 43);rw [show((w.alloc (.cells #[.slice A n c,.slice A' n' c'] 43)).alloc (.cells #[.int .i64 x,.int .i64 y] 89)).heap.size=w.heap.size+1+1 by simp]at this;exact this
 have hs:wa.heap[w.heap.size+1]?=some (.cells #[.int .i64 x,.int .i64 y] 89 (0,0)):=by rw [ha];have:=A_ (w.alloc (.cells #[.slice A n c,.slice A' n' c'] 43)) (.cells #[.int .i64 x,.int .i64 y] 89);rw [show(w.alloc (.cells #[.slice A n c,.slice A' n' c'] 43)).heap.size=w.heap.size+1 by simp]at this;exact(heap_alloc_old _ _ (by simp)).trans this
 have hx:wa.heap[w.heap.size]?=some (.cells #[.slice A n c,.slice A' n' c'] 43 (0,0)):=by rw [ha];exact(heap_alloc_old _ _ (by simp;omega)).trans ((heap_alloc_old _ _ (by simp)).trans (A_ w _))
 have ra:=(r.below hj).more (show w.heap.size≤wa.heap.size by omega);have hp:=(r'.below hj).more (show w.heap.size≤wa.heap.size by omega);have HC:=h_ (zu A n c xs A' n' c' gs wa ra hp);have hn:=h_ (sm x y);have hq:Hid ((b8:Array Value).all (·.oneCell')=true):=by simp [Hid,Value.oneCell']
 have h8:=h_ hw;have h9:=h_ hx;have h7:=h_ hs;have hh:=h_ ha;have h6:=h_ hj;have hK:=h_ hu;have RA:=h_ ra;have hM:=h_ hp;by_cases hk:jw xs gs
 ·have hE:=td hk;have hG:=r.len;have hB:=r'.len;rw [hk.1]at hG;rw [hk.2.1]at hB;subst hG;subst hB;have HX:=h_ hk.1;rw [hE]at HC;have HE:=h_ hE;clear r r' ra hp ha hu hj hw hx hs hk hE;by_cases hm:m <0∨48≤m
  ·have F:=h_ (Og (n:=m) (p:=⟨x,y⟩) HE.o (by rcases hm with h|h;exact .inl h;exact .inr (.inl h)));have F2:=h_ (Ge F.o (by decide));rcases(show m <0∨(0≤m∧48≤m) by omega)with h|⟨h,h'⟩<;>clear hm
   all_goals
    go_enter Tryz.func26,Tryz.ntmps26
    go_wp2_with(first
     |(go_at_call 52;rw [←hh.o];refine HC.o.mono ?_;rintro e w1 ⟨rfl,h0⟩;have h3:=ah h9.o (ag h9.o) h0;have h2:=ah h7.o (ag h7.o) h0;have q0:=rc0 h3;have q1:=rc1 h3;have u0:=rc0 h2;have u1:=rc1 h2;have q8:=ag h3;have u8:=ag h2;have h4:=h_ (ah h8.o (ag h8.o) h0);have h5:=h_ h0;clear h3 h2 h0)
     |(refine wpList_store_rowTo rfl _ _ _ rfl rfl (w.heap.size+1+1) b8 rfl rfl 43 b8 h4.o d8 rfl hq.o ?_))
    refine bodyPost_ret (cv rfl _ _ (w.heap.size+1+1) _ b8 (0,0) _ rfl (bh h4.o) Tryz.underlying43 rfl d8) rfl ?_;exact rk F.o F2.o (below_setRow (h6.o.trans (h5.o.mono h6.o.size)) (by omega) _)
  ·obtain⟨k,rfl⟩:∃k:Nat,m=k:=⟨m.toNat,by omega⟩;have hy:k <48:=by omega
   have i1:(k:Int) <48:=by omega
   clear hm;by_cases hr:dk x y=false∨x=0
   ·have F:=h_ (Og (n:=(k:Int)) (p:=⟨x,y⟩) HE.o (by rcases hr with h|h;exact .inr (.inr (.inl h));exact .inr (.inr (.inr h))));have F2:=h_ (Ge F.o (by decide));generalize hrr:dk x y=rb at*;clear hrr;cases rb
    ·clear hr;go_enter Tryz.func26,Tryz.ntmps26
     go_wp2_with(first
      |(go_at_call 52;rw [←hh.o];refine HC.o.mono ?_;rintro e w1 ⟨rfl,h0⟩;have h3:=ah h9.o (ag h9.o) h0;have h2:=ah h7.o (ag h7.o) h0;have q0:=rc0 h3;have q1:=rc1 h3;have u0:=rc0 h2;have u1:=rc1 h2;have q8:=ag h3;have u8:=ag h2;have h4:=h_ (ah h8.o (ag h8.o) h0);have h5:=h_ h0;clear h3 h2 h0)
      |(go_at_call 53;refine(hn.o _).mono ?_;rintro e w2 ⟨rfl,hc⟩;have h1:Below w1.heap.size w1 w2:=(by rw [←hc];exact br.alloc ler _);have he:=h_ (ah h4.o (ag h4.o) h1);have q0:=kn q0 q8 h1;have q1:=kn q1 q8 h1;have u0:=kn u0 u8 h1;have u1:=kn u1 u8 h1;have q8:=Nat.lt_of_lt_of_le q8 h1.size;have u8:=Nat.lt_of_lt_of_le u8 h1.size;have hd:=h_ (h5.o.trans (h1.mono h5.o.size));clear hc h1)
      |(refine wpList_store_rowTo rfl _ _ _ rfl rfl (w.heap.size+1+1) b8 rfl rfl 43 b8 he.o d8 rfl hq.o ?_))
     refine bodyPost_ret (cv rfl _ _ (w.heap.size+1+1) _ b8 (0,0) _ rfl (bh he.o) Tryz.underlying43 rfl d8) rfl ?_;exact rk F.o F2.o (below_setRow (h6.o.trans (hd.o.mono h6.o.size)) (by omega) _)
    ·have hf:x=0:=by rcases hr with h|h;cases h;exact h
     subst hf;clear hr;go_enter Tryz.func26,Tryz.ntmps26
     go_wp2_with(first
      |(go_at_call 52;rw [←hh.o];refine HC.o.mono ?_;rintro e w1 ⟨rfl,h0⟩;have h3:=ah h9.o (ag h9.o) h0;have h2:=ah h7.o (ag h7.o) h0;have q0:=rc0 h3;have q1:=rc1 h3;have u0:=rc0 h2;have u1:=rc1 h2;have q8:=ag h3;have u8:=ag h2;have h4:=h_ (ah h8.o (ag h8.o) h0);have h5:=h_ h0;clear h3 h2 h0)
      |(go_at_call 53;refine(hn.o _).mono ?_;rintro e w2 ⟨rfl,hc⟩;have h1:Below w1.heap.size w1 w2:=(by rw [←hc];exact br.alloc ler _);have he:=h_ (ah h4.o (ag h4.o) h1);have q0:=kn q0 q8 h1;have q1:=kn q1 q8 h1;have u0:=kn u0 u8 h1;have u1:=kn u1 u8 h1;have q8:=Nat.lt_of_lt_of_le q8 h1.size;have u8:=Nat.lt_of_lt_of_le u8 h1.size;have hd:=h_ (h5.o.trans (h1.mono h5.o.size));clear hc h1)
      |(refine wpList_store_rowTo rfl _ _ _ rfl rfl (w.heap.size+1+1) b8 rfl rfl 43 b8 he.o d8 rfl hq.o ?_))
     refine bodyPost_ret (cv rfl _ _ (w.heap.size+1+1) _ b8 (0,0) _ rfl (bh he.o) Tryz.underlying43 rfl d8) rfl ?_;exact rk F.o F2.o (below_setRow (h6.o.trans (hd.o.mono h6.o.size)) (by omega) _)
   ·have hv:dk x y=true:=by cases h:dk x y;exact absurd (.inl h) hr;rfl
    have hf:x≠0:=fun h=>hr (.inr h)
    have g0:(x==0)=false:=bF hf;obtain⟨pc,pn,e1⟩:=Uy HX.o hy;have E1:=h_ e1;have F:=h_ (c0x (p:=⟨x,y⟩) HE.o hy hv hf);obtain⟨b,o,rfl,hb⟩:=ur RA.o (by omega);have hA:Hid (∀W,Below wa.heap.size wa W→Calls Tryz.prog 54 #[.agg #[.slice (some ⟨b,o,none⟩) 48 c,.slice A' 48 c']] W (Au xs gs W)):=fun W h=>Th _ c xs _ c' gs W ((RA.o.below h).more h.size) ((hM.o.below h).more h.size)
    unfold Au at hA;have hI:Hid (∀(A A':Option Addr) (n c n' c':Nat),((#[.slice A n c,.slice A' n' c']:Array Value).all (·.oneCell'))=true):=fun _ _ _ _ _ _=>by simp [Value.oneCell']
    rw [hv]at hn;clear hv hf e1 hr;go_enter Tryz.func26,Tryz.ntmps26
    go_wp2_with(first
     |(go_at_call 52;rw [←hh.o];refine HC.o.mono ?_;rintro e w1 ⟨rfl,h0⟩;have h3:=ah h9.o (ag h9.o) h0;have h2:=ah h7.o (ag h7.o) h0;have q0:=rc0 h3;have q1:=rc1 h3;have u0:=rc0 h2;have u1:=rc1 h2;have q8:=ag h3;have u8:=ag h2;have h4:=h_ (ah h8.o (ag h8.o) h0);have h5:=h_ h0;clear h3 h2 h0)
     |(go_at_call 53;refine(hn.o _).mono ?_;rintro e w2 ⟨rfl,hc⟩;have h1:Below w1.heap.size w1 w2:=(by rw [←hc];exact br.alloc ler _);have he:=h_ (ah h4.o (ag h4.o) h1);have q0:=kn q0 q8 h1;have q1:=kn q1 q8 h1;have u0:=kn u0 u8 h1;have u1:=kn u1 u8 h1;have q8:=Nat.lt_of_lt_of_le q8 h1.size;have u8:=Nat.lt_of_lt_of_le u8 h1.size;have hd:=h_ (h5.o.trans (h1.mono h5.o.size));clear hc h1)
     |(refine wpList_store_rowTo rfl _ _ _ rfl rfl (w.heap.size+1+1) #[.slice (some ⟨g1,hD,none⟩) 48 d,.slice (some ⟨g2,hH,none⟩) 48 d'] rfl rfl 43 b8 l2 d8 rfl (hI.o _ _ _ _ _ _) ?_)
     |(go_at_call 54;refine(hA.o _ hd.o).mono ?_;rintro e w3 ⟨D,d,D',d',rfl,o1,o2,ap,hg⟩;have hF:=h_ o1;have hC:=h_ o2;have AP:=h_ ap;have hL:=h_ hg;have s0:=kn u0 u8 hg;have s1:=kn u1 u8 hg;have s8:=Nat.lt_of_lt_of_le u8 hg.size;clear o1 o2 ap hg)
     |(refine wpList_store_rowTo rfl _ _ _ rfl rfl w3.heap.size #[.slice D 48 d,.slice D' 48 d'] rfl rfl 43 b8 (A_ w3 _) d8 rfl (hI.o D D' 48 d 48 d') ?_;obtain⟨w4,ht⟩:∃w4,(w3.alloc (.cells b8 43)).setRow w3.heap.size #[.slice D 48 d,.slice D' 48 d']=w4:=⟨_,rfl⟩;rw [ht];have hJ:=h_ ht;clear ht;obtain⟨g1,hD,rfl,hR,hN⟩:=C8 hF.o (by omega);obtain⟨g2,hH,rfl,hP,hQ⟩:=C8 hC.o (by omega);have X3:=h_ (c0z (x:=x) (y:=y) E1.o hF.o hC.o AP.o hJ.o he.o hL.o);obtain⟨m0,c1,f1,c2,f2,n2,l0,l1,l2,_⟩:=X3.o.1;have t0:=kn s0 s8 X3.o.2.2.2.2;have t1:=kn s1 s8 X3.o.2.2.2.2))
    refine bodyPost_ret (cv rfl _ _ (w.heap.size+1+1) _ #[.slice (some ⟨g1,hD,none⟩) 48 d,.slice (some ⟨g2,hH,none⟩) 48 d'] (0,0) _ rfl (bh l2) Tryz.underlying43 rfl d8) rfl ?_;have hz:w.heap.size+1+1 <w2.heap.size:=by have:=hK.o;have:=hd.o.size;omega
    exact U5 F.o.1 F.o.2.1 F.o.2.2 ((X3.o.2.1.setRow hz _).rows su (by omega)) (qb (X3.o.2.2.1.setRow hz _)) (below_setRow ((h6.o.trans (hd.o.mono h6.o.size)).trans (X3.o.2.2.2.1.mono (by omega))) (by omega) _)
 ·have F:=h_ (c0y (n:=m) (p:=⟨x,y⟩) (by rw [mm hk];decide));have F2:=h_ (Ge F.o (by decide));rw [mm hk]at HC;clear r r' ra hp ha hu hj hw hx hs hk;go_enter Tryz.func26,Tryz.ntmps26
  go_wp2_with(first
   |(go_at_call 52;rw [←hh.o];refine HC.o.mono ?_;rintro e w1 ⟨rfl,h0⟩;have h3:=ah h9.o (ag h9.o) h0;have h2:=ah h7.o (ag h7.o) h0;have q0:=rc0 h3;have q1:=rc1 h3;have u0:=rc0 h2;have u1:=rc1 h2;have q8:=ag h3;have u8:=ag h2;have h4:=h_ (ah h8.o (ag h8.o) h0);have h5:=h_ h0;clear h3 h2 h0)
   |(refine wpList_store_rowTo rfl _ _ _ rfl rfl (w.heap.size+1+1) b8 rfl rfl 43 b8 h4.o d8 rfl hq.o ?_))
  refine bodyPost_ret (cv rfl _ _ (w.heap.size+1+1) _ b8 (0,0) _ rfl (bh h4.o) Tryz.underlying43 rfl d8) rfl ?_;exact rk F.o F2.o (below_setRow (h6.o.trans (h5.o.mono h6.o.size)) (by omega) _)
theorem t0p(A:Option Addr)(n c:Nat)(xs:List aa)(A':Option Addr)(n' c':Nat)(gs:List Int)(m:Int)(w:World)(r:ab w w.heap.size A n c aa.cells 2 xs)(r':ab w w.heap.size A' n' c' (fun z=>[.int .i64 z]) 1 gs):Calls Tryz.prog 27 #[.agg #[.slice A n c,.slice A' n' c'],.int .i64 m] w (Av (iu xs gs m) (nz xs gs m) (o6 xs gs m) w):=by
 obtain⟨wa,h8⟩:∃wa,wa=(w.alloc (.cells #[.slice A n c,.slice A' n' c'] 43)).alloc (.cells b8 43):=⟨_,rfl⟩;have hj:wa.heap.size=w.heap.size+2:=by rw [h8];simp
 have hd:Below w.heap.size w wa:=by rw [h8];exact(br.alloc ler _).alloc (by simp) _
 have hn:wa.heap[w.heap.size+1]?=some (.cells b8 43 (0,0)):=by rw [h8];have:=A_ (w.alloc (.cells #[.slice A n c,.slice A' n' c'] 43)) (.cells b8 43);rw [show(w.alloc (.cells #[.slice A n c,.slice A' n' c'] 43)).heap.size=w.heap.size+1 by simp]at this;exact this
 have hp:wa.heap[w.heap.size]?=some (.cells #[.slice A n c,.slice A' n' c'] 43 (0,0)):=by rw [h8];exact(heap_alloc_old _ _ (by simp)).trans (A_ w _)
 have ra:=(r.below hd).more (show w.heap.size≤wa.heap.size by omega);have he:=(r'.below hd).more (show w.heap.size≤wa.heap.size by omega);have HC:=h_ (zu A n c xs A' n' c' gs wa ra he);have hf:Hid ((b8:Array Value).all (·.oneCell')=true):=by simp [Hid,Value.oneCell']
 have h6:=h_ hn;have h7:=h_ hp;have ha:=h_ h8;have h5:=h_ hd;have hB:=h_ hj;have RA:=h_ ra;have hI:=h_ he;have R:=h_ r;have R':=h_ r';by_cases hk:jw xs gs
 ·have hE:=td hk;have hF:=r.len;have hv:=r'.len;rw [hk.1]at hF;rw [hk.2.1]at hv;subst hF;subst hv;have HK:=h_ hk;have HX:=h_ hk.1;have HY:=h_ hk.2.1;rw [hE]at HC;have HE:=h_ hE;clear r r' ra he h8 hj hd hn hp hk hE;by_cases hm:m <0∨48≤m
  ·have F:=h_ (t0n HE.o hm);have F2:=h_ (Ea F.o (by decide));rcases(show m <0∨(0≤m∧48≤m) by omega)with h|⟨h,h'⟩<;>clear hm
   all_goals
    go_enter Tryz.func27,Tryz.ntmps27
    go_wp2_with(first
     |(go_at_call 52;rw [←ha.o];refine HC.o.mono ?_;rintro e w1 ⟨rfl,h1⟩;have h2:=ah h7.o (ag h7.o) h1;have q0:=rc0 h2;have h3:=h_ (ah h6.o (ag h6.o) h1);have h4:=h_ h1;clear h2 h1)
     |(refine wpList_store_rowTo rfl _ _ _ rfl rfl (w.heap.size+1) b8 rfl rfl 43 b8 h3.o d8 rfl hf.o ?_))
    refine bodyPost_ret (cv rfl _ _ (w.heap.size+1) _ b8 (0,0) _ rfl (bh h3.o) Tryz.underlying43 rfl d8) rfl ?_;exact rk F.o F2.o (below_setRow (h5.o.trans (h4.o.mono h5.o.size)) (by omega) _)
  ·obtain⟨k,rfl⟩:∃k:Nat,m=k:=⟨m.toNat,by omega⟩;have h9:k <48:=by omega
   have i1:(k:Int) <48:=by omega
   obtain⟨pc,pn,e1⟩:∃pc pn,xs[k]?=some (⟨pc,pn⟩:aa):=Uy HX.o h9;obtain⟨g,e2,hP,hR⟩:=Uw HK.o h9;have E1:=h_ e1;have E2:=h_ e2;obtain⟨b,o,rfl,hr,hc⟩:=RA.o.at_ k _ e1;obtain⟨b',o',rfl,hA,hw⟩:=hI.o.one e2;have hs:wa.cell? ⟨b,o+k*2,none⟩=some (.int .i64 pc):=by simpa using hc 0 _ rfl
   have hq:=h_ hs;have hx:=h_ hw;clear hc hs hw e1 e2 hm;by_cases h0:pc=0
   ·subst h0;have F:=h_ (Wk HE.o h9 E1.o rfl);have F2:=h_ (Ea F.o (by decide));go_enter Tryz.func27,Tryz.ntmps27
    go_wp2_with(first
     |(go_at_call 52;rw [←ha.o];refine HC.o.mono ?_;rintro e w1 ⟨rfl,h1⟩;have h2:=ah h7.o (ag h7.o) h1;have q0:=rc0 h2;have q2:=(h1.cell (p:=⟨b,o+k*2,none⟩) hr).trans hq.o;have h3:=h_ (ah h6.o (ag h6.o) h1);have h4:=h_ h1;clear h2 h1)
     |(refine wpList_store_rowTo rfl _ _ _ rfl rfl (w.heap.size+1) b8 rfl rfl 43 b8 h3.o d8 rfl hf.o ?_))
    refine bodyPost_ret (cv rfl _ _ (w.heap.size+1) _ b8 (0,0) _ rfl (bh h3.o) Tryz.underlying43 rfl d8) rfl ?_;exact rk F.o F2.o (below_setRow (h5.o.trans (h4.o.mono h5.o.size)) (by omega) _)
   ·have g0:(pc==0)=false:=bF h0;by_cases hg:g=2147483647
    ·subst hg;have F:=h_ (Wm HE.o h9 E1.o h0 E2.o rfl);have F2:=h_ (Ea F.o (by decide));clear h0;go_enter Tryz.func27,Tryz.ntmps27
     go_wp2_with(first
      |(go_at_call 52;rw [←ha.o];refine HC.o.mono ?_;rintro e w1 ⟨rfl,h1⟩;have h2:=ah h7.o (ag h7.o) h1;have q0:=rc0 h2;have q1:=rc1 h2;have q2:=(h1.cell (p:=⟨b,o+k*2,none⟩) hr).trans hq.o;have q3:=(h1.cell (p:=⟨b',o'+k,none⟩) hA).trans hx.o;have h3:=h_ (ah h6.o (ag h6.o) h1);have h4:=h_ h1;clear h2 h1)
      |(refine wpList_store_rowTo rfl _ _ _ rfl rfl (w.heap.size+1) b8 rfl rfl 43 b8 h3.o d8 rfl hf.o ?_))
     refine bodyPost_ret (cv rfl _ _ (w.heap.size+1) _ b8 (0,0) _ rfl (bh h3.o) Tryz.underlying43 rfl d8) rfl ?_;exact rk F.o F2.o (below_setRow (h5.o.trans (h4.o.mono h5.o.size)) (by omega) _)
    ·have gg:(g==2147483647)=false:=bF hg;have F:=h_ (Wj HE.o h9 E1.o h0 E2.o hg);have hS:g≤2147483646:=by omega
     have hu:Hid (∀W,Below wa.heap.size wa W→Calls Tryz.prog 54 #[.agg #[.slice (some ⟨b,o,none⟩) 48 c,.slice (some ⟨b',o',none⟩) 48 c']] W (Au xs gs W)):=fun W h=>Th _ c xs _ c' gs W ((RA.o.below h).more h.size) ((hI.o.below h).more h.size)
     unfold Au at hu;have hH:Hid (∀(A A':Option Addr) (n c n' c':Nat),((#[.slice A n c,.slice A' n' c']:Array Value).all (·.oneCell'))=true):=fun _ _ _ _ _ _=>by simp [Value.oneCell']
     clear h0 hg;go_enter Tryz.func27,Tryz.ntmps27
     go_wp2_with(first
      |(go_at_call 52;rw [←ha.o];refine HC.o.mono ?_;rintro e w1 ⟨rfl,h1⟩;have h2:=ah h7.o (ag h7.o) h1;have q0:=rc0 h2;have q1:=rc1 h2;have q2:=(h1.cell (p:=⟨b,o+k*2,none⟩) hr).trans hq.o;have q3:=(h1.cell (p:=⟨b',o'+k,none⟩) hA).trans hx.o;have h3:=h_ (ah h6.o (ag h6.o) h1);have h4:=h_ h1;clear h2 h1)
      |(refine wpList_store_rowTo rfl _ _ _ rfl rfl (w.heap.size+1) #[.slice (some ⟨g1,hC,none⟩) 48 d,.slice (some ⟨g2,hG,none⟩) 48 d'] rfl rfl 43 b8 l2 d8 rfl (hH.o _ _ _ _ _ _) ?_)
      |(go_at_call 54;refine(hu.o _ h4.o).mono ?_;rintro e w2 ⟨D,d,D',d',rfl,o1,o2,ap,ht⟩;have hD:=h_ o1;have hy:=h_ o2;have AP:=h_ ap;have hJ:=h_ ht;clear o1 o2 ap ht)
      |(refine wpList_store_rowTo rfl _ _ _ rfl rfl w2.heap.size #[.slice D 48 d,.slice D' 48 d'] rfl rfl 43 b8 (A_ w2 _) d8 rfl (hH.o D D' 48 d 48 d') ?_;obtain⟨w3,hh⟩:∃w3,(w2.alloc (.cells b8 43)).setRow w2.heap.size #[.slice D 48 d,.slice D' 48 d']=w3:=⟨_,rfl⟩;rw [hh];have hK:=h_ hh;clear hh;obtain⟨g1,hC,rfl,hQ,hL⟩:=C8 hD.o (by omega);obtain⟨g2,hG,rfl,hM,hN⟩:=C8 hy.o (by omega);have X3:=h_ (t0k (E1:=E1.o) (E2:=E2.o) hD.o hy.o AP.o hK.o h3.o (by have:=hB.o;have:=h4.o.size;omega) hJ.o);obtain⟨m0,m1,c1,f1,c2,f2,c3,f3,n2,l0,l1,l2,r0,r1⟩:=X3.o.1))
     refine bodyPost_ret (cv rfl _ _ (w.heap.size+1) _ #[.slice (some ⟨g1,hC,none⟩) 48 d,.slice (some ⟨g2,hG,none⟩) 48 d'] (0,0) _ rfl (bh l2) Tryz.underlying43 rfl d8) rfl ?_;have hz:w.heap.size+1 <w1.heap.size:=by have:=hB.o;have:=h4.o.size;omega
     exact U5 F.o.1 F.o.2.1 F.o.2.2 ((X3.o.2.1.setRow hz _).rows su (by omega)) (qb (X3.o.2.2.1.setRow hz _)) (below_setRow ((h5.o.trans (h4.o.mono h5.o.size)).trans (X3.o.2.2.2.mono (by omega))) (by omega) _)
 ·have F:=h_ (t0j (n:=m) (by rw [mm hk];decide));have F2:=h_ (Ea F.o (by decide));rw [mm hk]at HC;clear r r' ra he h8 hj hd hn hp hk;go_enter Tryz.func27,Tryz.ntmps27
  go_wp2_with(first
   |(go_at_call 52;rw [←ha.o];refine HC.o.mono ?_;rintro e w1 ⟨rfl,h1⟩;have h3:=h_ (ah h6.o (ag h6.o) h1);have h4:=h_ h1;clear h1)
   |(refine wpList_store_rowTo rfl _ _ _ rfl rfl (w.heap.size+1) b8 rfl rfl 43 b8 h3.o d8 rfl hf.o ?_))
  refine bodyPost_ret (cv rfl _ _ (w.heap.size+1) _ b8 (0,0) _ rfl (bh h3.o) Tryz.underlying43 rfl d8) rfl ?_;exact rk F.o F2.o (below_setRow (h5.o.trans (h4.o.mono h5.o.size)) (by omega) _)
noncomputable def im(cell:Int)(k:Nat)(b:bz)(m:List aa×List Int):Option (List aa×List Int):=
 if b.Kind=2 then(if jg m.1 m.2 b.Ino ⟨cell,k⟩=0 then some (n7 m.1 m.2 b.Ino ⟨cell,k⟩,n8 m.1 m.2 b.Ino ⟨cell,k⟩)else none)
 else if b.Kind=3 then(if iu m.1 m.2 b.Ino=0 then some (nz m.1 m.2 b.Ino,o6 m.1 m.2 b.Ino)else none)else some m
noncomputable def ft(cell:Int):Nat→List bz→List aa×List Int→Option (List aa×List Int)
 |_,[],m=>some m
 |k,b::r,m=>match im cell k b m with
  |none=>none
  |some m1=>ft cell (k+1) r m1
section
variable {cell:Int} {L:List bz} {x:bz} {i:Nat} {m m1:List aa×List Int}
theorem Bv(h:L[i]?=some x)(hv:im cell i x m=none):ft cell i (L.drop i) m=none:=by have hi:=(gS.1 h).1;rw [List.drop_eq_getElem_cons hi,(gS.1 h).2];simp only [ft,hv]
theorem ux(h:L[i]?=some x)(hv:im cell i x m=some m1):ft cell i (L.drop i) m=ft cell (i+1) (L.drop (i+1)) m1:=by have hi:=(gS.1 h).1;rw [List.drop_eq_getElem_cons hi,(gS.1 h).2];simp only [ft,hv]
theorem Q9(h:L.length≤i):ft cell i (L.drop i) m=some m:=by rw [List.drop_eq_nil_of_le h];rfl
end
theorem te{xs:List aa}{gs:List Int}(h:bu xs gs=0):xs.length=48∧gs.length=48:=by
 have h0:jw xs gs:=by
  by_cases hk:jw xs gs
  ·exact hk
  ·rw [mm hk]at h;cases h
 exact⟨h0.1,h0.2.1⟩
theorem Oh{xs:List aa}{gs:List Int}{n:Int}{p:aa}(h:jg xs gs n p=0):(n7 xs gs n p).length=48∧(n8 xs gs n p).length=48:=by
 have hi:bu xs gs=0:=by
  by_cases hi:bu xs gs=0
  ·exact hi
  ·unfold jg at h;rw [if_pos hi]at h;cases h
 obtain⟨h1,h2⟩:=te hi;unfold n7 n8;rw [if_pos h,if_pos h,List.length_set];exact⟨h1,h2⟩
theorem Wn{xs:List aa}{gs:List Int}{n:Int}(h:iu xs gs n=0):(nz xs gs n).length=48∧(o6 xs gs n).length=48:=by
 have hi:bu xs gs=0:=by
  by_cases hi:bu xs gs=0
  ·exact hi
  ·unfold iu at h;rw [if_pos hi]at h;cases h
 obtain⟨h1,h2⟩:=te hi;unfold nz o6;rw [if_pos h,if_pos h,List.length_set,List.length_set];exact⟨h1,h2⟩
theorem U4{E:Int}{X:List aa}{Y:List Int}{w:World}{f:FuncId}{args:Array Value}(h:Calls Tryz.prog f args w (Av E X Y w)):Calls Tryz.prog f args w fun e w'=>∃z:Option Addr×Nat×Nat×Option Addr×Nat×Nat,e= .returned (.tuple #[.agg #[.slice z.1 z.2.1 z.2.2.1,.slice z.2.2.2.1 z.2.2.2.2.1 z.2.2.2.2.2],.int .i64 E])∧(ab w' w'.heap.size z.1 z.2.1 z.2.2.1 aa.cells 2 X∧ab w' w'.heap.size z.2.2.2.1 z.2.2.2.2.1 z.2.2.2.2.2 (fun z=>[.int .i64 z]) 1 Y∧Below w.heap.size w w'):=
 h.mono fun _ _ ⟨D,q,d,D',q',d',h1,h2⟩=>⟨(D,q,d,D',q',d'),h1,h2⟩
structure RpS(b:Nat)(cs:List ByteArray)(m:List aa×List Int)(fr:List Int)(os:List OpD)(z t:Int)(on:Nat)(w:World)(W:World)(v:FsV):Prop where
 fs:FsT b cs [] m.1 m.2 fr os v W
 below:Below b w W
 oA:v.oA=none
 fA:v.fA=none
 ser:v.ser=z
 tur:v.tur=t
 on:v.on=on
section
variable {b:Nat} {cs:List ByteArray} {m:List aa×List Int} {fr:List Int} {os:List OpD} {z t:Int} {on:Nat} {w W W' w2:World} {v:FsV}
theorem RpS.go(h:RpS b cs m fr os z t on w W v)(hb:Below W.heap.size W W'):RpS b cs m fr os z t on w W' v:=
 {fs:=h.fs.below hb,below:=h.below.trans (hb.mono (Nat.le_of_lt h.fs.lt)),oA:=h.oA,fA:=h.fA,ser:=h.ser,tur:=h.tur,on:=h.on}
theorem RpS.map(h:RpS b cs m fr os z t on w W v)(hb:Below W.heap.size W w2){D D':Option Addr}{q d q' d':Nat}{X:List aa}{Y:List Int}(hr:ab w2 w2.heap.size D q d aa.cells 2 X)(hr':ab w2 w2.heap.size D' q' d' (fun z=>[.int .i64 z]) 1 Y)(hX:X.length=48)(hY:Y.length=48):∃v',RpS b cs (X,Y) fr os z t on w ((w2.setCell ⟨b,2,none⟩ (.slice D q d)).setCell ⟨b,3,none⟩ (.slice D' q' d')) v':=by
 have h2:=h.go hb;have hq:=hr.len;have h0:=hr'.len;have f1:da D q b:=hr.far_small h2.fs.box (fun _=>rfl) (by decide) (by show 8≤(q-1)*2;omega) (by omega);have f2:da D' q' b:=hr'.far_small h2.fs.box (fun _=>rfl) (by decide) (by show 8≤(q'-1)*1;omega) (by omega);refine⟨_,{fs:=h2.fs.map hr hr' (fun g hg=>?_),below:=(h2.below.setCell (p:=⟨b,2,none⟩) ler _).setCell (p:=⟨b,3,none⟩) ler _,oA:=h.oA,fA:=h.fA,ser:=h.ser,tur:=h.tur,on:=h.on}⟩;rcases hg with rfl|hg|hg
 ·exact⟨f1,f2⟩
 ·rw [h.oA]at hg;cases hg
 ·rw [h.fA]at hg;cases hg
theorem RpS.bad(h:RpS b cs m fr os z t on w W v)(hb:Below W.heap.size W w2)(x y:Value):Below b w ((w2.setCell ⟨b,2,none⟩ x).setCell ⟨b,3,none⟩ y):=
 ((h.go hb).below.setCell (p:=⟨b,2,none⟩) ler _).setCell (p:=⟨b,3,none⟩) ler _
end
def xt(b:Nat)(cs:List ByteArray)(r:Option (List aa×List Int))(fr:List Int)(os:List OpD)(z t:Int)(on:Nat)(w:World)(e:Ending)(w':World):Prop:=
 (∃m v,r=some m∧e= .returned (.int .i64 0)∧RpS b cs m fr os z t on w w' v)∨(r=none∧(∃E:Int,(E !=0)=true∧e= .returned (.int .i64 E))∧Below b w w')
end Go.Proofs.YtcldpfhpkbeaiadGreat
