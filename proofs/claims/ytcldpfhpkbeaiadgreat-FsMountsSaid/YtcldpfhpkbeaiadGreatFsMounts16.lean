/- A part of the proof of FsMounts. No condition of ours. -/
import Derived.Test.YtcldpfhpkbeaiadGreatFsMounts15
set_option maxRecDepth 20000
set_option maxHeartbeats 2000000
namespace Go.Proofs.YtcldpfhpkbeaiadGreat
open Go.RowKit
theorem Zc:∀W:World,(zeroValue 231).run Tryz.prog W= .ok (.agg (gx 17 (fun _=>0))) W:=fun W=>by rw [←Sd];kernel_rfl
theorem m0j(N:Nat)(hN:N≤320):∀W:World,(Instr.makeSlice 41 (.int .i64 (N:Int)) (.int .i64 (N:Int))).run Tryz.prog W= .ok (.slice (some ⟨W.heap.size,0,none⟩) N N) (W.alloc (.cells (gx N (fun _=>0)) 3)):=fun W=>by
 obtain⟨i,hi,h0⟩:=Option.map_eq_some_iff.1 vx;simp only [Prod.mk.injEq]at h0;obtain⟨hz,hs,h1⟩:=h0;have:=run_make (P:=Tryz.prog) W 41 3 i (.int .i64 0) Tryz.underlying41 hi hz .i64 .i64 N N (by omega) (by omega) (by rw [h1];omega) (by omega);rw [hs]at this;rw [this,Int.toNat_natCast]
 have e:madeCells (Value.int .i64 0).cells (N*1)=gx N (fun _=>0):=by rw [←Sd];apply Array.ext';rw [Nat.mul_one,Array.toList_replicate];exact toList_madeCells_one _ _
 rw [e]
theorem o0e{W:World}{b k b' k' b'' k'':Nat}{u v x:Value}(h0:b≠b'')(h1:k'≠k'')(h:W.cell? ⟨b,k,none⟩=some u∧W.cell? ⟨b',k',none⟩=some v):(W.setCell ⟨b'',k'',none⟩ x).cell? ⟨b,k,none⟩=some u∧(W.setCell ⟨b'',k'',none⟩ x).cell? ⟨b',k',none⟩=some v:=by
 refine⟨?_,?_⟩
 ·rw [World.cell?_setCell_other _ _ _ _ (fun e=>by injection e with e _ _;omega)];exact h.1
 ·rw [World.cell?_setCell_other _ _ _ _ (fun e=>by injection e with _ e _;omega)];exact h.2
theorem Xh(A:Option Addr)(n c:Nat)(xs:List Int)(w:World)(r:ab w w.heap.size A n c (fun z=>[.int .i64 z]) 1 xs):Calls Tryz.prog 137 #[.slice A n c] w fun e w'=>∃A q c,e= .returned (.tuple #[.slice A q c,.int .i64 (dt xs)])∧ab w' w'.heap.size A q c (fun z=>[.int .i64 z]) 1 (o8 xs)∧Below w.heap.size w w':=by
 have hK:=r.len;obtain rfl:=hK;have H:=h_ (r0f A xs.length c xs w.heap.size w r);by_cases hE:gk xs=0
 ·obtain⟨hL,hA⟩:=Jx hE;have HA:=h_ hA;by_cases hO:32768 <gz xs
  ·have F:=h_ (Kq hE hO);rw [hE]at H;generalize gz xs=fv at*;clear hE hA;go_enter Tryz.func137,Tryz.ntmps137;go_wp2_with(go_at_call 155;refine H.o.mono ?_;rintro e w' ⟨rfl,rfl⟩);go_ret2;exact⟨none,0,0,by rw [F.o.1];rfl,by rw [F.o.2];exact Cg _ _,br⟩
  ·have F:=h_ (Xj hE hO);rw [hE]at H;have hI:gz xs≤32768:=by omega
   have HF:Hid (iz xs≤32768):=by simp only [Hid];rw [←(Jv hL hA).1];exact hI
   generalize gz xs=fv at*;clear hE hA hO;have hz:=Zc;go_enter Tryz.func137,Tryz.ntmps137;go_wp2_with(go_at_call 155;refine H.o.mono ?_;rintro e w' ⟨rfl,rfl⟩);clear H hz;go_loopw [26] (fun v26 wr=>∃i:Nat,i≤xs.length∧v26= .int .i64 i∧Hid (wr.heap[w.heap.size]?=some (.cells (sk xs i) 231 (0,0)))∧Hid (wr.heap[w.heap.size+1]?=some (.cells (ly xs 1) 231 (0,0)))∧Below w.heap.size w wr) (fun v26 _=>xs.length- (intOf v26).toNat)
   case atStart=>exact⟨0,zl,rfl,by rw [f0r];exact heap_alloc2_old _ _ _,by rw [f0k];exact heap_alloc2_new _ _ _,(br.alloc ler _).alloc (by simp) _⟩
   case round=>
    obtain⟨i,hi,rfl,h1,h2,hb⟩:=hrel;by_cases hlt:i <xs.length
    ·have e1:=gE hlt;obtain⟨b,o,rfl,hN,hc⟩:=(r.below hb).one e1;have hx:=HA.o xs[i] (List.getElem_mem hlt);obtain⟨X,hX⟩:=Int.eq_ofNat_of_zero_le hx.1;rw [hX]at hc e1 hx;have HS:=h_ (f0s e1);clear e1 hX;have hX:X≤15:=by omega
     have hn:X <17:=by omega
     have hg:=aj h1.o X;rw [Pn xs i hn]at hg;have hf:=ak h1.o X;have hV:=mr X (xs.take i);have hW:(xs.take i).length≤320:=by simp;omega
     generalize bp X (xs.take i)=v at*;go_wp2
     have h4:Hid ((wr.setCell ⟨w.heap.size,X,none⟩ (.int .i64 (v+1))).heap[w.heap.size]?=some (.cells (sk xs (i+1)) 231 (0,0))):=by have:=b9 (j:=X) (v:=.int .i64 (v+1)) h1.o;rw [HS.o]at this;exact this
     have h3:Hid ((wr.setCell ⟨w.heap.size,X,none⟩ (.int .i64 (v+1))).heap[w.heap.size+1]?=some (.cells (ly xs 1) 231 (0,0))):=cp h2.o (show w.heap.size+1≠w.heap.size by omega);have hb':=hb.setCell (p:=⟨w.heap.size,X,none⟩) ler (.int .i64 (v+1));clear h1 h2 hb;go_roundw
     case rel=>exact⟨i+1,by omega,by go_num,h4,h3,hb'⟩
     case measure=>(simp [intOf];try omega)
    ·obtain rfl:i=xs.length:=by omega
     have hg:=aj h1.o 0;rw [Pn xs _ (by omega)]at hg;have hf:=ak h1.o 0;go_wp2
     have h4:Hid ((wr.setCell ⟨w.heap.size,0,none⟩ (.int .i64 0)).heap[w.heap.size]?=some (.cells (ut xs) 231 (0,0))):=by have:=b9 (j:=0) (v:=.int .i64 0) h1.o;rw [f0p]at this;exact this
     have h3:Hid ((wr.setCell ⟨w.heap.size,0,none⟩ (.int .i64 0)).heap[w.heap.size+1]?=some (.cells (ly xs 1) 231 (0,0))):=cp h2.o (show w.heap.size+1≠w.heap.size by omega);have hb':=hb.setCell (p:=⟨w.heap.size,0,none⟩) ler (.int .i64 0);clear h1 h2 hb hg hf;generalize wr.setCell ⟨w.heap.size,0,none⟩ (.int .i64 0)=wz at*;go_loopw [10] (fun v10 wr=>∃k:Nat,1≤k∧k≤16∧v10= .int .i64 k∧Hid (wr.heap[w.heap.size]?=some (.cells (ut xs) 231 (0,0)))∧Hid (wr.heap[w.heap.size+1]?=some (.cells (ly xs k) 231 (0,0)))∧Below w.heap.size w wr) (fun v10 _=>16- (intOf v10).toNat)
     case atStart=>exact⟨1,Nat.le_refl _,by omega,rfl,h4,h3,hb'⟩
     case round=>
      clear h4 h3 hb';obtain⟨k,he,hk,rfl,h1,h2,hb⟩:=hrel;by_cases hlt:k <16
      ·have hD:(k:Int)≤15:=by omega
       have hq:k <17:=by omega
       have hY:k+1 <17:=by omega
       have h5:=aj h1.o k;rw [f0q xs he hq]at h5;have h6:=aj h2.o k;rw [f0n xs he hq]at h6;have hd:=aj h2.o (k+1);rw [f0m xs hlt]at hd;have hs:=ak h2.o (k+1);have HS:=h_ (f0j xs he);have ht:=Ta HA.o HF.o (k:=k) (by omega) hD;generalize d7 k xs=lo at*;generalize bp k xs=cn at*;obtain⟨hZ,hP,hQ⟩:=ht;go_wp2;have h7:wr.cell? ⟨w.heap.size,k,none⟩=some (.int .i64 cn)∧wr.cell? ⟨w.heap.size+1,k,none⟩=some (.int .i64 lo):=⟨h5,h6⟩;have hJ:wr.drew.cell? ⟨w.heap.size+1,k+1,none⟩=some (.int .i64 0):=hd;have hM:wr.drew.frozen? ⟨w.heap.size+1,k+1,none⟩=false:=hs;clear hd hs h5 h6;have a1:(k:Int) <17:=by omega
       have a2:(k:Int)+1 <17:=by omega
       have a3:(0:Int)≤(k:Int):=by omega
       have a4:(0:Int)≤(k:Int)+1:=by omega
       have a5:IntKind.i64.wrap ((k:Int)+1)=(k:Int)+1:=by rw [IntKind.wrap_i64];omega
       have a6:IntKind.i64.wrap (lo+cn)=lo+cn:=by rw [IntKind.wrap_i64];omega
       have a7:IntKind.i64.wrap ((lo+cn)*2)=(lo+cn)*2:=by rw [IntKind.wrap_i64];omega
       go_region_held3 (fun W=>W.cell? ⟨w.heap.size,k,none⟩=some (.int .i64 cn)∧W.cell? ⟨w.heap.size+1,k,none⟩=some (.int .i64 lo))
        (first|assumption|exact h7|exact o0e (by omega) (by omega) (by assumption)) (fail)
       all_goals
        have h4:Hid ((wr.setCell ⟨w.heap.size+1,k+1,none⟩ (.int .i64 ((lo+cn)*2))).drew.heap[w.heap.size]?=some (.cells (ut xs) 231 (0,0))):=cp (a:=⟨w.heap.size+1,k+1,none⟩) h1.o (show w.heap.size≠w.heap.size+1 by omega)
        have h3:Hid ((wr.setCell ⟨w.heap.size+1,k+1,none⟩ (.int .i64 ((lo+cn)*2))).drew.heap[w.heap.size+1]?=some (.cells (ly xs (k+1)) 231 (0,0))):=by have:=b9 (j:=k+1) (v:=.int .i64 ((lo+cn)*2)) h2.o;rw [HS.o]at this;exact this
        have hb':Below w.heap.size w (wr.setCell ⟨w.heap.size+1,k+1,none⟩ (.int .i64 ((lo+cn)*2))).drew:=(hb.setCell (p:=⟨w.heap.size+1,k+1,none⟩) (by simp) (.int .i64 ((lo+cn)*2))).drew;clear h1 h2 hb h7 hJ hM;generalize(wr.setCell ⟨w.heap.size+1,k+1,none⟩ (.int .i64 ((lo+cn)*2))).drew=w3 at*;go_wp2;go_roundw
        case rel=>exact⟨k+1,by omega,by omega,by go_num,h4,h3,hb'⟩
        case measure=>(simp [intOf];try omega)
      ·obtain rfl:k=16:=by omega
       have h3:=h2.o;rw [e0z]at h3;have hC:=m0j xs.length hL;have hH:=ag h3;have hu:=cq h3 (.cells (gx xs.length (fun _=>0)) 3);have hm:=A_ wr (.cells (gx xs.length (fun _=>0)) 3);rw [←f0d]at hm;have hw:=h_ hu;have hp:=h_ hm;have hr:=hb.alloc (by omega) (.cells (gx xs.length (fun _=>0)) 3);obtain⟨wo,rfl⟩:∃wo:World,wo=wr:=⟨_,rfl⟩;clear h1 h2 h3 hu hm;go_wp2;clear hC;go_loopw [57] (fun v57 wr=>∃i:Nat,i≤xs.length∧v57= .int .i64 i∧Hid (wr.heap[w.heap.size+1]?=some (.cells (py xs i) 231 (0,0)))∧Hid (wr.heap[wo.heap.size]?=some (.cells (nc xs i) 3 (0,0)))∧Below w.heap.size w wr) (fun v57 _=>xs.length- (intOf v57).toNat)
       case atStart=>exact⟨0,zl,rfl,hw,hp,hr⟩
       case round=>
        clear hw hp hr;obtain⟨i,hi,rfl,h1,h2,hb⟩:=hrel;have hh:=h_ (show wo.heap.size≠w.heap.size+1 by omega);have hG:=h_ (show w.heap.size≤wo.heap.size by omega);clear hH;by_cases hlt:i <xs.length
        ·have e1:=gE hlt;obtain⟨b,o,rfl,hN,hc⟩:=(r.below hb).one e1;have hx:=HA.o xs[i] (List.getElem_mem hlt);obtain⟨X,hX⟩:=Int.eq_ofNat_of_zero_le hx.1;rw [hX]at hc e1 hx;clear hX;rcases(show X=0∨1≤X by omega)with h0|h0
         ·subst h0;have h4:Hid (wr.heap[w.heap.size+1]?=some (.cells (py xs (i+1)) 231 (0,0))):=by simp only [Hid];rw [←f0a e1];exact h1.o
          have h3:Hid (wr.heap[wo.heap.size]?=some (.cells (nc xs (i+1)) 3 (0,0))):=by simp only [Hid];rw [←f0e e1];exact h2.o
          clear h1 h2 e1;go_wp2;go_roundw
          case rel=>exact⟨i+1,by omega,by go_num,h4,h3,hb⟩
          case measure=>(simp [intOf];try omega)
         ·have hn:X <17:=by omega
          have hT:(0:Int) < (X:Int):=by omega
          have h7:=h_ (f0b e1 h0);have hy:=h_ (f0f e1 h0);have ht:=n0f HA.o HF.o (k:=X) (by omega) hx.2 i;have h5:=aj h1.o X;rw [f0c xs i h0 hn]at h5;have hR:=ak h1.o X;have h6:=aj h2.o i;rw [f0h xs hlt]at h6;have hS:=ak h2.o i;generalize d7 X xs+bp X (xs.take i)=v at*;clear e1;have h8:=cp (a:=⟨wo.heap.size,i,none⟩) (v:=.int .i64 v) h1.o (fun e=>hh.o e.symm);have hj:=b9 (j:=i) (v:=.int .i64 v) h2.o;rw [hy.o]at hj;have g0:=(aj h8 X).trans ((aj h1.o X).symm.trans h5);have hU:=ak h8 X;have ha:=b9 (j:=X) (v:=.int .i64 (v+1)) h8;rw [h7.o]at ha;have hv:=cp (a:=⟨w.heap.size+1,X,none⟩) (v:=.int .i64 (v+1)) hj hh.o;have hb':=(hb.setCell (p:=⟨wo.heap.size,i,none⟩) hG.o (.int .i64 v)).setCell (p:=⟨w.heap.size+1,X,none⟩) (by simp) (.int .i64 (v+1));have hB:=h_ ha;have h9:=h_ hv;clear h1 h2 hb h8 hj ha hv;go_wp2;go_roundw
          case rel=>exact⟨i+1,by omega,by go_num,hB,h9,hb'⟩
          case measure=>(simp [intOf];try omega)
        ·obtain rfl:i=xs.length:=by omega
         have F1:=h_ F.o.1;have F2:=h_ F.o.2;have h9:=h2;have hF:=ag h2.o;clear h1 h2 F;go_wp2;go_ret2;refine⟨_,_,_,by rw [F1.o];rfl,?_,hb⟩;rw [F2.o]
         exact⟨xj _ _,Nat.le_refl _,by unfold maxLen;omega,fun k u hk=>⟨_,_,rfl,hF,fun j z hz=>by
    rcases j with _|j
    ·obtain rfl:Value.int .i64 u=z:=by simpa using hz
     rw [aj h9.o]
     have:=f0g xs hk
     simpa using this
    ·simp at hz⟩⟩
 ·have F:=h_ (Ae hE);have hh:(gk xs !=0)=true:=bN hE;generalize gz xs=fv at*;generalize gk xs=fe at*;clear hE;go_enter Tryz.func137,Tryz.ntmps137;go_wp2_with(go_at_call 155;refine H.o.mono ?_;rintro e w' ⟨rfl,rfl⟩);go_ret2;exact⟨none,0,0,by rw [F.o.1];rfl,by rw [F.o.2];exact Cg _ _,br⟩
theorem zq:(Tryz.prog.info? 189).map (·.size)=some 49:=by kernel_rfl
def df:Array Value:=dy (.slice none 0 0) (fun _=>0) (fun _=>0) (fun _=>0)
def Fa(l:List Int)(w:World)(e:Ending)(w':World):Prop:=∃A c,e= .returned (.agg (dy (.slice A (sgL l 16).length c) (bkF l 16) (bkG l 16) (bkC l)))∧ab w' w'.heap.size A (sgL l 16).length c (fun z=>[.int .i64 z]) 1 (sgL l 16)∧Below w.heap.size w w'∧∀a,A=some a→w.heap.size≤a.block
structure BkI(w wr:World)(v:Value)(F G C:Nat→Int):Prop where
 row:wr.heap[w.heap.size+1]?=some (.cells (dy v F G C) 189 (0,0))
 res:wr.heap[w.heap.size]?=some (.cells df 189 (0,0))
 bel:Below w.heap.size w wr
 sz:w.heap.size+2≤wr.heap.size
theorem BkI.store{w wr:World}{v v' u:Value}{F G C F' G' C':Nat→Int}(h:BkI w wr v F G C)(k:Nat)(e:(dy v F G C).setIfInBounds k u=dy v' F' G' C'):BkI w (wr.setCell ⟨w.heap.size+1,k,none⟩ u) v' F' G' C':=
 ⟨by rw [←e];exact b9 h.row,cp h.res (show w.heap.size≠w.heap.size+1 by omega),h.bel.setCell (show w.heap.size≤w.heap.size+1 by omega) _,by have:=h.sz;simp [World.setCell];exact this⟩
theorem BkI.left{w wr w':World}{v:Value}{F G C:Nat→Int}{row:Option Nat}(h:BkI w wr v F G C)(hl:ed wr w' (w.heap.size+2) row):BkI w w' v F G C:=
 ⟨dw h.row hl (fun e=>by have:=hl.row_ge _ e;omega),dw h.res hl (fun e=>by have:=hl.row_ge _ e;omega),hl.below (by omega) h.bel,Nat.le_trans h.sz hl.size⟩
theorem BkI.cellF{w wr:World}{v:Value}{F G C:Nat→Int}(h:BkI w wr v F G C){j:Nat}(hj:j <16):wr.cell? ⟨w.heap.size+1,1+j,none⟩=some (.int .i64 (F j)):=(aj h.row _).trans (Ku v F G C j hj)
theorem BkI.cellG{w wr:World}{v:Value}{F G C:Nat→Int}(h:BkI w wr v F G C){j:Nat}(hj:j <16):wr.cell? ⟨w.heap.size+1,17+j,none⟩=some (.int .i64 (G j)):=(aj h.row _).trans (Xz v F G C j hj)
theorem BkI.cellC{w wr:World}{v:Value}{F G C:Nat→Int}(h:BkI w wr v F G C){j:Nat}(hj:j <16):wr.cell? ⟨w.heap.size+1,33+j,none⟩=some (.int .i64 (C j)):=(aj h.row _).trans (Kv v F G C j hj)
theorem BkI.cellv{w wr:World}{v:Value}{F G C:Nat→Int}(h:BkI w wr v F G C):wr.cell? ⟨w.heap.size+1,0,none⟩=some v:=(aj h.row _).trans (Xx v F G C)
theorem BkI.free{w wr:World}{v:Value}{F G C:Nat→Int}(h:BkI w wr v F G C)(j:Nat):wr.frozen? ⟨w.heap.size+1,j,none⟩=false:=ak h.row j
theorem BkI.start(w:World):BkI w ((w.alloc (.cells df 189)).alloc (.cells df 189)) (.slice none 0 0) (fun _=>0) (fun _=>0) (fun _=>0):=
 ⟨by have:=A_ (w.alloc (.cells df 189)) (.cells df 189)
     rw [show(w.alloc (.cells df 189)).heap.size=w.heap.size+1 by simp]at this
     exact this,(heap_alloc_old _ _ (by simp)).trans (A_ w _),(br.alloc ler _).alloc (by simp) _,by simp⟩
theorem n0e{l:List Int}{k:Nat}(hk:0 <k)(hk16:k <16):(bkF l 16 (k-1)+bkC l (k-1))*2=d7 (k:Int) l:=by
 unfold bkF bkC;by_cases h:k=1
 ·subst h;simp;exact(Tc l).symm
 ·rw [if_pos (by omega),if_pos (by omega)];have:=Tb ((k-1:Nat):Int) (by omega) l;rw [show((k-1:Nat):Int)+1=(k:Int) by omega]at this;omega
theorem v0f(A:Option Addr)(n c:Nat)(l:List Int)(w:World)(r:ab w w.heap.size A n c (fun z=>[.int .i64 z]) 1 l)(hcan:dt l=0)(hn:n≤320):Calls Tryz.prog 138 #[.slice A n c] w (Fa l w):=by
 have g4:=r.len;obtain rfl:=g4;have hQ:=h_ (xa hcan);have hr:=h_ (fun(k:Nat) a b=>Iu hcan (w:=k) a b);have hE:=h_ (BkI.start w);clear hcan;go_enter Tryz.func138,Tryz.ntmps138;go_wp2;go_loopw [5,12] (fun _ v12 wr=>∃i:Nat,i≤l.length∧v12= .int .i64 i∧BkI w wr (.slice none 0 0) (fun _=>0) (fun _=>0) (fun j=>bp j (l.take i))) (fun _ v12 _=>l.length- (intOf v12).toNat)
 case atStart=>exact⟨0,zl,rfl,by rw [t0y];exact hE.o⟩
 case round=>
  obtain⟨i,hi,rfl,h0⟩:=hrel;clear hE;by_cases hlt:i <l.length
  ·have e1:=gE hlt;have hx:=hQ.o _ (List.getElem_mem hlt);obtain⟨x,hm⟩:∃x:Nat,l[i]=(x:Int):=⟨l[i].toNat,by omega⟩;rw [hm]at e1 hx;obtain⟨b,o,rfl,g9,hc⟩:=(r.below h0.bel).one e1;have hv:x <16:=by omega
   have gg:=h0.cellC hv;have h9:=h0.free (33+x);have i1:(i:Int) < (l.length:Int):=by omega
   have i2:(x:Int) <16:=by omega
   have i3:(0:Int)≤(x:Int):=by omega
   have gC:=mr x (l.take i);have gD:(l.take i).length≤320:=by rw [List.length_take];omega
   have HU:=h_ (t0z l e1);have HS:=h_ (h0.store (33+x) (u:=.int .i64 (bp x (l.take i)+1)) (Xy _ _ _ _ _ x hv));rw [HU.o]at HS;generalize bp x (l.take i)=q at*;clear e1 hm h0 hx HU;go_wp2;go_roundw
   case rel=>exact⟨i+1,by omega,by go_num,HS.o⟩
   case measure=>(simp [intOf];try omega)
  ·obtain rfl:i=l.length:=by omega
   have i1:¬(l.length:Int) < (l.length:Int):=by omega
   have hs:=h0.cellC (j:=0) (by omega);have hK:=h0.free 33;have HS:=h_ (h0.store 33 (u:=.int .i64 0) (Xy _ _ _ _ _ 0 (by omega)));rw [u0c]at HS;generalize bp ((0:Nat):Int) (l.take l.length)=q at*;simp only [Nat.add_zero]at hs;clear h0;obtain⟨hu,hk⟩:=v0j l;have HS:Hid (BkI w (wr.setCell ⟨w.heap.size+1,33,none⟩ (.int .i64 0)) (.slice none 0 0) (bkF l 1) (bkG l 1) (bkC l)):=by simp only [Hid];rw [hu,hk];exact HS.o
   have hz:bkF l 16 (1-1)=0:=by simp [bkF]
   clear hu hk;go_wp2;go_loopw [6,7,8,9,50] (fun v6 v7 _ _ _ wr=>∃(k:Nat) (v:Value),1≤k∧k≤16∧v7= .int .i64 k∧v6= .int .i64 (bkF l 16 (k-1))∧BkI w wr v (bkF l k) (bkG l k) (bkC l)∧af wr (w.heap.size+2) 1 v (sgL l k).length ((sgL l k).map (Value.int .i64))) (fun _ v7 _ _ _ _=>16- (intOf v7).toNat)
   case atStart=>exact⟨1,_,by omega,by omega,rfl,by rw [hz],HS.o,by rw [c0r];exact af.nil _ _ _⟩
   case round=>
    obtain⟨k,v,gJ,gw,rfl,rfl,h0,h3⟩:=hrel;clear HS hs hK hz i1;by_cases hlt:k <16
    ·have i1:(k:Int) <16:=by omega
     have i2:(0:Int)≤(k:Int):=by omega
     have i3:(k:Int)≤15:=by omega
     have i4:(1:Int)≤(k:Int):=by omega
     obtain⟨AO,cO,rfl⟩:=h3.form;have hd:=n0e (l:=l) (by omega:0 <k) hlt;have hp:=hr.o k (by omega) (by omega)
     have g3:(2:Int)^k≤32768:=by
      have:(2:Nat)^k≤2^15:=Nat.pow_le_pow_right (by omega) (by omega);have h2:((2^k:Nat):Int)≤((2^15:Nat):Int):=by exact_mod_cast this
      simpa using h2
     have hC:=zk k l;have hG:=(mr k l).1;have hH:=h0.cellC (j:=k-1) (by omega);have g1:0≤bkF l 16 (k-1):=by unfold bkF;split;exact zk _ _;omega
     have g0:0≤bkC l (k-1):=by unfold bkC;split;exact(mr _ _).1;omega
     have hw:=Gd l k
     have hT:(sgL l k).length≤5120:=Nat.le_trans hw (by
 have:k*l.length≤16*320:=Nat.mul_le_mul (by omega) hn
 omega)
     have HE:=h_ hd;have hS:=h0.cellF (j:=k) hlt;have hR:=h0.free (1+k);have h6:=h0.store (1+k) (u:=.int .i64 (d7 k l)) (v0d _ _ _ _ _ k hlt);rw [v0m l (by omega)]at h6;have hV:=h6.cellG (j:=k) hlt;have hN:=h6.free (17+k);have g2:=h6.cellv;have hg:=h6.store (17+k) (u:=.int .i64 ((sgL l k).length:Int)) (v0c _ _ _ _ _ k hlt);rw [v0k l (by omega)]at hg
     have hB:Hid (af ((wr.setCell ⟨w.heap.size+1,1+k,none⟩ (.int .i64 (d7 k l))).setCell ⟨w.heap.size+1,17+k,none⟩ (.int .i64 ((sgL l k).length:Int))) (w.heap.size+2) 1 (.slice AO (sgL l k).length cO) (sgL l k).length ((sgL l k).map (Value.int .i64))):=
      (h3.setOther (fun e=>by have:=(h3.lt _ e).1;simp at this) _).setOther (fun e=>by have:=(h3.lt _ e).1;simp at this) _
     have ht:=h_ hg;have hj:((k:Int)-1).toNat=k-1:=by omega
     generalize bkF l 16 (k-1)=X at*;generalize bkC l (k-1)=Y at*;have g6:(X+Y)*2=d7 k l:=hd;generalize hZe:d7 k l=Z at*;have hI:X+Y≤16384:=by omega
     have gI:0≤Z:=hC;clear hd hp g3 hw h3 h0 h6 hg hr;obtain⟨wo,rfl⟩:∃wo:World,wo=wr:=⟨_,rfl⟩;have h8:sgL l k++iy l k 0=sgL l k:=by simp [iy]
     have hF:Hid (sgL l k++iy l k l.length=sgL l (k+1)):=(Gc (by omega)).symm
     have hZ:Hid (∀i,i≤l.length→(sgL l k++iy l k i).length≤5440):=fun i hi=>by rw [List.length_append];have h1:=Dc l k i hi;have h2:=(mr k (l.take i)).2;rw [List.length_take]at h2;omega
     go_wp2;clear hH hS hR hV hN g2 g6 hI g1 g0 hC hG hT;go_loopw [8,9,50] (fun _ _ v50 wi=>∃(i:Nat) (v:Value),i≤l.length∧v50= .int .i64 i∧BkI w wi v (bkF l (k+1)) (bkG l (k+1)) (bkC l)∧af wi (w.heap.size+2) 1 v (sgL l k++iy l k i).length ((sgL l k++iy l k i).map (Value.int .i64))) (fun _ _ v50 _=>l.length- (intOf v50).toNat)
     case atStart=>exact⟨0,_,zl,rfl,ht.o,by rw [h8];exact hB.o⟩
     case round=>
      obtain⟨i,v,hi,rfl,h0,h3⟩:=hrel;obtain⟨gG,gB,rfl⟩:=h3.form;have hX:=h0.sz;by_cases hilt:i <l.length
      ·have e1:=gE hilt;obtain⟨b,o,rfl,g9,hc⟩:=(r.below h0.bel).one e1;have HX:=h_ (Jf (w:=(k:Int)) e1);have j1:(i:Int) < (l.length:Int):=by omega
       have gb:=hZ.o i hi;have hA:=h0.cellv;have h9:=h0.free 0;have h5:=h_ h3;have h4:=h_ h0;by_cases hx:l[i]=(k:Int)
       ·have hD:(l[i]==(k:Int))=true:=beq_iff_eq.2 hx;rw [hx]at hc HX;rw [if_pos rfl]at HX;have hf:Hid (sgL l k++iy l k (i+1)=(sgL l k++iy l k i)++[(i:Int)]):=by simp only [Hid];rw [HX.o,List.append_assoc]
        generalize hU:sgL l k++iy l k i=U at*;have gs:((k:Int)==(k:Int))=true:=beq_iff_eq.2 rfl;clear e1 h0 h3 hx hD HX hU h8;go_wp2_with(at_builtin;refine dx rfl rfl Tryz.underlying41 vx rfl (Nat.le_refl 1) h5.o rfl hX rfl rfl rfl ?_ ?_ ?_ ?_;simp [Value.oneCell'];(unfold maxLen;omega);omega;intro A3 c3 w3 he hy hW;have h7:=h4.o.left hy;have ga:=h7.cellv;have g5:=h7.free 0);have hP:=h_ (he.setOther (p:=⟨w.heap.size+1,0,none⟩) (fun e=>by have:=(he.lt _ e).1;simp at this) (.slice A3 (U.length+1) c3));have g8:=h_ (h7.store 0 (v0b _ (.slice A3 (U.length+1) c3) _ _ _));clear he hy hW h7 ga g5 hA h9 hc;refine⟨⟨i+1,_,by omega,by go_num,g8.o,?_⟩,by simp [intOf];omega⟩;rw [hf.o,List.length_append,List.length_singleton,List.map_append];exact hP.o
       ·have hD:(l[i]==(k:Int))=false:=bF hx;rw [if_neg hx,List.append_nil]at HX;have hf:Hid (sgL l k++iy l k (i+1)=sgL l k++iy l k i):=by simp only [Hid];rw [HX.o]
        generalize sgL l k++iy l k i=U at*;generalize l[i]=x at*;clear e1 h0 h3 hx HX h8 hA h9;go_wp2;refine⟨⟨i+1,_,by omega,by go_num,h4.o,?_⟩,by simp [intOf];omega⟩;rw [hf.o];exact h5.o
      ·obtain rfl:i=l.length:=by omega
       have j1:¬(l.length:Int) < (l.length:Int):=by omega
       have h5:=h_ h3;have h4:=h_ h0;have hM:Hid (bkF l 16 k=Z):=by simp only [Hid];rw [←hZe];unfold bkF;rw [if_pos (by omega)]
       rw [hF.o]at h5 h4;clear h0 h3 h8 ht hB hZe;go_wp2;refine⟨⟨k+1,_,by omega,by omega,by go_num,?_,h4.o,h5.o⟩,by simp [intOf];omega⟩;rw [show k+1-1=k by omega,hM.o]
    ·obtain rfl:k=16:=by omega
     have i1:¬((16:Nat):Int) <16:=by omega
     obtain⟨AO,cO,rfl⟩:=h3.form;have h5:=h_ h3;have h4:=h_ h0;have HU:Hid (Tryz.prog.underlying 189=_):=Tryz.underlying189;generalize hU:sgL l 16=U at*;have g7:Hid ((dy (.slice AO U.length cO) (bkF l 16) (bkG l 16) (bkC l)).all (·.oneCell')=true):=xm _ _ _ _ AO _ cO rfl;have hJ:=h_ h4.o.row;have hq:=h_ h4.o.res;have hh:Hid ((Tryz.prog.info? 189).map (·.size)=some (dy (.slice AO U.length cO) (bkF l 16) (bkG l 16) (bkC l)).size):=zq;have hL:Hid (df.size=(dy (.slice AO U.length cO) (bkF l 16) (bkG l 16) (bkC l)).size):=rfl;have gF:=h_ h4.o.bel;have gH:=h4.o.sz
     have hY:Hid (∀w',w'=wr.setRow w.heap.size (dy (.slice AO U.length cO) (bkF l 16) (bkG l 16) (bkC l))→Fa l w (.returned (.agg (dy (.slice AO U.length cO) (bkF l 16) (bkG l 16) (bkC l)))) w'):=fun w' e=>by subst e;refine⟨AO,cO,by rw [hU],?_,h4.o.bel.trans (below_setRow br ler _),fun a ha=>by subst ha;have:=(h5.o.lt a.block rfl).1;omega⟩;rw [hU];exact C9 (h5.o.setRow (by omega) _)
     generalize dy (.slice AO U.length cO) (bkF l 16) (bkG l 16) (bkC l)=CS at*;generalize df=BZ at*;clear h0 h3 h4 h5 hU
     go_wp2_with(first
      |(refine wpList_load_row rfl _ _ rfl (w.heap.size+1) rfl _ CS (0,0) _ hJ.o HU.o rfl hh.o ?_)
      |(refine wpList_store_rowTo rfl _ _ _ rfl rfl w.heap.size CS rfl rfl 189 BZ hq.o hh.o hL.o g7.o ?_))
     refine bodyPost_ret (results_cell_row rfl _ _ w.heap.size _ CS (0,0) _ rfl (bh hq.o) HU.o rfl hh.o) rfl ?_;exact hY.o _ rfl
end Go.Proofs.YtcldpfhpkbeaiadGreat
