/- A part of the proof of FsMounts. No condition of ours. -/
import Derived.Test.YtcldpfhpkbeaiadGreatFsMounts06
set_option maxRecDepth 20000
set_option maxHeartbeats 1000000
namespace Go.Proofs.YtcldpfhpkbeaiadGreat
section
open Go.RowKit
theorem Ef(w:World)(v0 v1:Value)(t:TypeId):(w.alloc (.cells #[v0,v1] t)).cell? ⟨w.heap.size,0,none⟩=some v0∧(w.alloc (.cells #[v0,v1] t)).cell? ⟨w.heap.size,1,none⟩=some v1:=by constructor<;>(unfold World.cell?;rw [A_ w _];rfl)
theorem zu(A:Option Addr)(n c:Nat)(xs:List aa)(A':Option Addr)(n' c':Nat)(gs:List Int)(w:World)(r:ab w w.heap.size A n c aa.cells 2 xs)(r':ab w w.heap.size A' n' c' (fun z=>[.int .i64 z]) 1 gs):Calls Tryz.prog 52 #[.agg #[.slice A n c,.slice A' n' c']] w fun e w'=>e= .returned (.int .i64 (bu xs gs))∧Below w.heap.size w w':=by
 have ht:=r.len;have hf:=r'.len;subst ht;subst hf;have h3:Below w.heap.size w (w.alloc (.cells #[.slice A xs.length c,.slice A' gs.length c'] 43)):=br.alloc ler _;by_cases h1:xs.length=48
 ·by_cases h2:gs.length=48
  ·obtain⟨J,hJ,h9,h6,ha,h8⟩:=Ug xs gs h1 h2;have HG:=h_ h9;have HB:=h_ h6;have E0:=h_ ha;have E4:=h_ h8;clear h9 h6 ha h8;rw [h1,h2]at h3⊢;rw [h1]at r;rw [h2]at r';clear h1 h2;go_enter Tryz.func52,Tryz.ntmps52;go_wp2;obtain⟨hs,hd⟩:=Ef w (.slice A 48 c) (.slice A' 48 c') 43;have h7:w.heap.size < (w.alloc (.cells #[.slice A 48 c,.slice A' 48 c'] 43)).heap.size:=by simp
   generalize w.alloc (.cells #[.slice A 48 c,.slice A' 48 c'] 43)=wa at*;go_loopw [18] (fun v18 wr=>∃k:Nat,k≤J∧v18= .int .i64 k∧Below wa.heap.size wa wr) (fun v18 _=>48- (intOf v18).toNat)
   case atStart=>exact⟨0,zl,rfl,br⟩
   case round=>
    obtain⟨k,hk,rfl,hb⟩:=hrel;have h0:Below w.heap.size w wr:=h3.trans (hb.mono (by omega));have hr:=hb.size;have hx:wr.cell? ⟨w.heap.size,0,none⟩=some (.slice A 48 c):=(hb.cell (p:=⟨w.heap.size,0,none⟩) h7).trans hs;have hw:wr.cell? ⟨w.heap.size,1,none⟩=some (.slice A' 48 c'):=(hb.cell (p:=⟨w.heap.size,1,none⟩) h7).trans hd;have hv:w.heap.size <wr.heap.size:=by omega
    by_cases hlt:k <J
    ·obtain⟨p,g,e1,e2,g1,g2,g3⟩:=HG.o k hlt;obtain⟨b,o,rfl,hu,hc⟩:=(r.below h0).at_ k _ e1;obtain⟨b',o',rfl,hq,hh⟩:=(r'.below h0).one e2;obtain⟨pc,pn⟩:=p;have h5:=hc 0 _ rfl;have hj:=hc 1 _ rfl;simp only [Nat.add_zero]at h5;clear hc e1 e2;have h4:dk pc pn=true:=g1;clear g1;have hn:b <wr.heap.size:=by omega
     have hm:b' <wr.heap.size:=by omega
     go_wp2_with(go_at_call 53;refine(sm _ _ _).mono ?_;rintro e w' ⟨rfl,rfl⟩);go_roundw
     case rel=>exact⟨k+1,by omega,by go_num,(hb.alloc hr _).alloc (by simp;omega) _⟩
     case measure=>simp [intOf];omega
    ·obtain rfl:k=J:=by omega
     by_cases hend:(k:Int) <48
     ·obtain⟨p,g,e1,e2,hg⟩:=HB.o (by omega);have hE:=E4.o (by omega);have F:=h_ hE;clear hE;obtain⟨b,o,rfl,hu,hc⟩:=(r.below h0).at_ k _ e1;obtain⟨b',o',rfl,hq,hh⟩:=(r'.below h0).one e2;obtain⟨pc,pn⟩:=p;have h5:=hc 0 _ rfl;have hj:=hc 1 _ rfl;simp only [Nat.add_zero]at h5;clear hc e1 e2;have hn:b <wr.heap.size:=by omega
      have hm:b' <wr.heap.size:=by omega
      rcases hg with h4|⟨h4,hg2⟩|⟨h4,hg2,hg3⟩
      all_goals
       simp only at h4;go_wp2_with(go_at_call 53;refine(sm _ _ _).mono ?_;rintro e w' ⟨rfl,rfl⟩);go_ret;exact⟨ax F.o.symm,(h0.alloc (by omega) _).alloc (by simp;omega) _⟩
     ·have F:=h_ (E0.o (by omega));go_wp2;go_ret;exact⟨ax F.o.symm,h0⟩
  ·have F:=h_ (mm (xs:=xs) (gs:=gs) fun h=>h2 h.2.1);have hp:((gs.length:Int)!=48)=true:=bN (by omega);have he:¬(gs.length:Int)=48:=by omega
   rw [h1]at h3⊢;go_enter Tryz.func52,Tryz.ntmps52;go_wp2;go_ret;exact⟨ax F.o.symm,h3⟩
 ·have F:=h_ (mm (xs:=xs) (gs:=gs) fun h=>h1 h.1);have hp:((xs.length:Int)!=48)=true:=bN (by omega);have he:¬(xs.length:Int)=48:=by omega
  go_enter Tryz.func52,Tryz.ntmps52;go_wp2;go_ret;exact⟨ax F.o.symm,h3⟩
theorem p0n(A:Option Addr)(n c:Nat)(xs:List aa)(A':Option Addr)(n' c':Nat)(gs:List Int)(w:World)(r:ab w w.heap.size A n c aa.cells 2 xs)(r':ab w w.heap.size A' n' c' (fun z=>[.int .i64 z]) 1 gs):Calls Tryz.prog 120 #[.agg #[.slice A n c,.slice A' n' c']] w fun e w'=>e= .returned (.int .i64 (bu xs gs))∧Below w.heap.size w w':=by
 have ht:=r.len;have hf:=r'.len;subst ht;subst hf;have h3:Below w.heap.size w (w.alloc (.cells #[.slice A xs.length c,.slice A' gs.length c'] 43)):=br.alloc ler _;by_cases h1:xs.length=48
 ·by_cases h2:gs.length=48
  ·obtain⟨J,hJ,h9,h6,ha,h8⟩:=Ug xs gs h1 h2;have HG:=h_ h9;have HB:=h_ h6;have E0:=h_ ha;have E4:=h_ h8;clear h9 h6 ha h8;rw [h1,h2]at h3⊢;rw [h1]at r;rw [h2]at r';clear h1 h2;go_enter Tryz.func120,Tryz.ntmps120;go_wp2;obtain⟨hs,hd⟩:=Ef w (.slice A 48 c) (.slice A' 48 c') 43;have h7:w.heap.size < (w.alloc (.cells #[.slice A 48 c,.slice A' 48 c'] 43)).heap.size:=by simp
   generalize w.alloc (.cells #[.slice A 48 c,.slice A' 48 c'] 43)=wa at*;go_loopw [14] (fun v18 wr=>∃k:Nat,k≤J∧v18= .int .i64 k∧Below wa.heap.size wa wr) (fun v18 _=>48- (intOf v18).toNat)
   case atStart=>exact⟨0,zl,rfl,br⟩
   case round=>
    obtain⟨k,hk,rfl,hb⟩:=hrel;have h0:Below w.heap.size w wr:=h3.trans (hb.mono (by omega));have hr:=hb.size;have hx:wr.cell? ⟨w.heap.size,0,none⟩=some (.slice A 48 c):=(hb.cell (p:=⟨w.heap.size,0,none⟩) h7).trans hs;have hw:wr.cell? ⟨w.heap.size,1,none⟩=some (.slice A' 48 c'):=(hb.cell (p:=⟨w.heap.size,1,none⟩) h7).trans hd;have hv:w.heap.size <wr.heap.size:=by omega
    by_cases hlt:k <J
    ·obtain⟨p,g,e1,e2,g1,g2,g3⟩:=HG.o k hlt;obtain⟨b,o,rfl,hu,hc⟩:=(r.below h0).at_ k _ e1;obtain⟨b',o',rfl,hq,hh⟩:=(r'.below h0).one e2;obtain⟨pc,pn⟩:=p;have h5:=hc 0 _ rfl;have hj:=hc 1 _ rfl;simp only [Nat.add_zero]at h5;clear hc e1 e2;have h4:dk pc pn=true:=g1;clear g1;have hn:b <wr.heap.size:=by omega
     have hm:b' <wr.heap.size:=by omega
     go_wp2_with(go_at_call 147;refine(uu _ _ _).mono ?_;rintro e w' ⟨rfl,rfl⟩);go_roundw
     case rel=>exact⟨k+1,by omega,by go_num,hb.alloc hr _⟩
     case measure=>simp [intOf];omega
    ·obtain rfl:k=J:=by omega
     by_cases hend:(k:Int) <48
     ·obtain⟨p,g,e1,e2,hg⟩:=HB.o (by omega);have hE:=E4.o (by omega);have F:=h_ hE;clear hE;obtain⟨b,o,rfl,hu,hc⟩:=(r.below h0).at_ k _ e1;obtain⟨b',o',rfl,hq,hh⟩:=(r'.below h0).one e2;obtain⟨pc,pn⟩:=p;have h5:=hc 0 _ rfl;have hj:=hc 1 _ rfl;simp only [Nat.add_zero]at h5;clear hc e1 e2;have hn:b <wr.heap.size:=by omega
      have hm:b' <wr.heap.size:=by omega
      rcases hg with h4|⟨h4,hg2⟩|⟨h4,hg2,hg3⟩
      all_goals
       simp only at h4;go_wp2_with(go_at_call 147;refine(uu _ _ _).mono ?_;rintro e w' ⟨rfl,rfl⟩);go_ret;exact⟨ax F.o.symm,h0.alloc (by omega) _⟩
     ·have F:=h_ (E0.o (by omega));go_wp2;go_ret;exact⟨ax F.o.symm,h0⟩
  ·have F:=h_ (mm (xs:=xs) (gs:=gs) fun h=>h2 h.2.1);have hp:((gs.length:Int)!=48)=true:=bN (by omega);have he:¬(gs.length:Int)=48:=by omega
   rw [h1]at h3⊢;go_enter Tryz.func120,Tryz.ntmps120;go_wp2;go_ret;exact⟨ax F.o.symm,h3⟩
 ·have F:=h_ (mm (xs:=xs) (gs:=gs) fun h=>h1 h.1);have hp:((xs.length:Int)!=48)=true:=bN (by omega);have he:¬(xs.length:Int)=48:=by omega
  go_enter Tryz.func120,Tryz.ntmps120;go_wp2;go_ret;exact⟨ax F.o.symm,h3⟩
end
section
open Go.RowKit
open Classical in
noncomputable def iu(xs:List aa)(gs:List Int)(n:Int):Int:=
 if bu xs gs≠0 then 4 else if n <0∨48≤n then 1 else if(xs.getD n.toNat ⟨0,0⟩).Cell=0 then 12 else if gs.getD n.toNat 0=2147483647 then 10 else 0
noncomputable def nz(xs:List aa)(gs:List Int)(n:Int):List aa:=if iu xs gs n=0 then xs.set n.toNat ⟨0,0⟩else []
noncomputable def o6(xs:List aa)(gs:List Int)(n:Int):List Int:=if iu xs gs n=0 then gs.set n.toNat (gs.getD n.toNat 0+1)else []
noncomputable def jg(xs:List aa)(gs:List Int)(n:Int)(p:aa):Int:=
 if bu xs gs≠0 then 4 else if n <0∨48≤n∨dk p.Cell p.Nth=false∨p.Cell=0 then 1 else 0
noncomputable def n7(xs:List aa)(gs:List Int)(n:Int)(p:aa):List aa:=if jg xs gs n p=0 then xs.set n.toNat p else []
noncomputable def n8(xs:List aa)(gs:List Int)(n:Int)(p:aa):List Int:=if jg xs gs n p=0 then gs else []
theorem Ea{xs:List aa}{gs:List Int}{n:Int}{e:Int}(h:iu xs gs n=e)(he:e≠0):nz xs gs n=[]∧o6 xs gs n=[]:=by unfold nz o6;rw [h,if_neg he,if_neg he];exact⟨rfl,rfl⟩
theorem t0j{xs:List aa}{gs:List Int}{n:Int}(h:bu xs gs≠0):iu xs gs n=4:=by unfold iu;rw [if_pos h]
theorem t0n{xs:List aa}{gs:List Int}{n:Int}(h:bu xs gs=0)(hn:n <0∨48≤n):iu xs gs n=1:=by unfold iu;rw [if_neg (by simp [h]),if_pos hn]
theorem Wk{xs:List aa}{gs:List Int}{k:Nat}{p:aa}(h:bu xs gs=0)(hk:k <48)(hp:xs[k]?=some p)(h0:p.Cell=0):iu xs gs k=12:=by unfold iu;rw [if_neg (by simp [h]),if_neg (by omega),if_pos (by rw [Int.toNat_natCast,gD,hp];exact h0)]
theorem Wm{xs:List aa}{gs:List Int}{k:Nat}{p:aa}{g:Int}(h:bu xs gs=0)(hk:k <48)(hp:xs[k]?=some p)(h0:p.Cell≠0)(hg:gs[k]?=some g)(hg2:g=2147483647):iu xs gs k=10:=by unfold iu;rw [if_neg (by simp [h]),if_neg (by omega),if_neg (by rw [Int.toNat_natCast,gD,hp];exact h0),if_pos (by rw [Int.toNat_natCast,gD,hg];exact hg2)]
theorem Wj{xs:List aa}{gs:List Int}{k:Nat}{p:aa}{g:Int}(h:bu xs gs=0)(hk:k <48)(hp:xs[k]?=some p)(h0:p.Cell≠0)(hg:gs[k]?=some g)(hg2:g≠2147483647):iu xs gs k=0∧nz xs gs k=xs.set k ⟨0,0⟩∧o6 xs gs k=gs.set k (g+1):=by
 have e:iu xs gs k=0:=by unfold iu;rw [if_neg (by simp [h]),if_neg (by omega),if_neg (by rw [Int.toNat_natCast,gD,hp];exact h0),if_neg (by rw [Int.toNat_natCast,gD,hg];exact hg2)]
 refine⟨e,by unfold nz;rw [if_pos e,Int.toNat_natCast],by unfold o6;rw [if_pos e,Int.toNat_natCast,gD,hg];rfl⟩
theorem Uy{xs:List aa}{k:Nat}(h:xs.length=48)(hk:k <48):∃pc pn,xs[k]?=some (⟨pc,pn⟩:aa):=by have e:=gE (l:=xs) (i:=k) (by omega);generalize xs[k]=p at e;exact⟨p.Cell,p.Nth,e⟩
theorem Uw{xs:List aa}{gs:List Int}{k:Nat}(h:jw xs gs)(hk:k <48):∃g,gs[k]?=some g∧0≤g∧g≤2147483647:=by obtain⟨_,g,_,e,_,h1,h2⟩:=h.2.2 k hk;exact⟨g,e,h1,h2⟩
theorem Dj(xs:List aa):∀(k:Nat) (p:aa),((xs.flatMap aa.cells).set (k*2) (.int .i64 p.Cell)).set (k*2+1) (.int .i64 p.Nth)=(xs.set k p).flatMap aa.cells:=by
 induction xs with
 |nil=>intro k p;simp
 |cons x r ih=>
  intro k p;match k with
  |0=>simp [aa.cells]
  |k+1=>have:=ih k p;simp only [List.flatMap_cons,sF,aa.cells,List.cons_append,List.nil_append]at*;rw [show(k+1)*2=(k*2)+1+1 by omega,sF,sF,sF,sF,←this]
end
section
open Go.RowKit Go.PlainAid
def jE(s:ByteArray)(p:Nat):Int:=ce (bt (tl s p)) (tl s p).size
def jK(s:ByteArray)(p:Nat):Nat:=(ck (bt (tl s p)) (tl s p).size).toNat
def jV(s:ByteArray)(p:Nat):Nat:=(c9 (bt (tl s p)) (tl s p).size).toNat
theorem Tz{s:ByteArray}{p:Nat}(h:jE s p=0):ck (bt (tl s p)) (tl s p).size=(jK s p:Int)∧c9 (bt (tl s p)) (tl s p).size=(jV s p:Int)∧1≤jK s p∧jK s p≤10∧jK s p≤s.size-p:=by
 obtain⟨_,h2,h3,h0,h5⟩:=Jm (bt (tl s p)) (tl s p).size (fun j=>bt_nonneg _ j) (fun j=>bt_le _ j) h;have hz:=lx s p;have a1:ck (bt (tl s p)) (tl s p).size=(jK s p:Int):=by unfold jK;omega
 have a2:c9 (bt (tl s p)) (tl s p).size=(jV s p:Int):=by unfold jV;omega
 have a3:jK s p≤(tl s p).size:=h2;exact⟨a1,a2,by omega,by omega,by omega⟩
structure JOk(s:ByteArray)(p:Nat):Prop where
 num:jE s p=0
 top:jV s p≤2147483647
 fits:p+jK s p+2≤s.size
def am(s:ByteArray):Nat→Nat
 |0=>0
 |j+1=>am s j+jK s (am s j)+2
theorem Tw(s:ByteArray)(j:Nat):am s j+2≤am s (j+1):=by simp only [am];omega
theorem J6(s:ByteArray){i j:Nat}(h:i <j):am s i+2≤am s j:=by
 induction h with
 |refl=>exact Tw s i
 |step _ ih=>rename_i m _;have h1:=Tw s m;rw [Nat.succ_eq_add_one];omega
theorem Tx{s:ByteArray}{i j:Nat}(h:am s i=am s j):i=j:=by
 rcases Nat.lt_trichotomy i j with h1|h1|h1
 ·have:=J6 s h1;omega
 ·exact h1
 ·have:=J6 s h1;omega
def jpl(s:ByteArray)(p:Nat):aa:=⟨bt s (p+jK s p),bt s (p+jK s p+1)⟩
def jPl(s:ByteArray)(j:Nat):List aa:=(List.range j).map fun i=>jpl s (am s i)
def jGs(s:ByteArray)(j:Nat):List Int:=(List.range j).map fun i=>(jV s (am s i):Int)
theorem U0(s:ByteArray)(j:Nat):jPl s (j+1)=jPl s j++[jpl s (am s j)]:=by simp [jPl,List.range_succ]
theorem U1(s:ByteArray)(j:Nat):jGs s (j+1)=jGs s j++[(jV s (am s j):Int)]:=by simp [jGs,List.range_succ]
theorem J7(s:ByteArray)(j:Nat):(jPl s j).length=j:=by simp [jPl]
theorem J8(s:ByteArray)(j:Nat):(jGs s j).length=j:=by simp [jGs]
structure jr(s:ByteArray):Prop where
 all:∀j,j <48→JOk s (am s j)
 end_:am s 48=s.size
 right:bu (jPl s 48) (jGs s 48)=0
open Classical in
noncomputable def kr(s:ByteArray):Int:=if jr s then 0 else 4
open Classical in
noncomputable def qg(s:ByteArray):List aa:=if jr s then jPl s 48 else []
open Classical in
noncomputable def nt(s:ByteArray):List Int:=if jr s then jGs s 48 else []
theorem Ub{s:ByteArray}(h:¬jr s):kr s=4∧qg s=[]∧nt s=[]:=by unfold kr qg nt;simp only [if_neg h,and_self]
theorem Jd{s:ByteArray}(h:jr s):kr s=0∧qg s=jPl s 48∧nt s=jGs s 48:=by unfold kr qg nt;simp only [if_pos h,and_self]
theorem o0h{s:ByteArray}(h:∀j,j <48→JOk s (am s j)):am s 48≤s.size:=(h 47 (by omega)).fits
theorem p0g{s:ByteArray}(h:jr s){j:Nat}(hj:am s j <s.size):j <48∧JOk s (am s j):=by
 have he:=h.end_
 have:j <48:=by
  rcases Nat.lt_trichotomy j 48 with h1|h1|h1
  ·exact h1
  ·subst h1;omega
  ·have:=J6 s h1;omega
 exact⟨this,h.all j this⟩
theorem p0f{s:ByteArray}{j:Nat}(hall:∀i,i <j→JOk s (am s i))(he:am s j=s.size):jr s↔bu (jPl s j) (jGs s j)=0:=by
 constructor
 ·intro h;have:j=48:=Tx (he.trans h.end_.symm);subst this;exact h.right
 ·intro h
  have hj:j=48:=by
   by_cases hk:jw (jPl s j) (jGs s j)
   ·have:=hk.1;rwa [J7]at this
   ·rw [mm hk]at h;cases h
  subst hj;exact⟨hall,he,h⟩
end
section
open Go.RowKit
def Ay:Array Value:=Array.replicate 96 (.int .i64 0)
def Az:Array Value:=Array.replicate 48 (.int .i64 0)
theorem t7:(Tryz.prog.info? 89).map (fun i=>(i.zero,i.size,i.bytes))=some (some (.agg #[.int .i64 0,.int .i64 0]),2,16):=by kernel_rfl
theorem d8:(Tryz.prog.info? 43).map (·.size)=some 2:=by kernel_rfl
theorem ta:(Tryz.prog.info? 3).map (fun i=>(i.zero,i.size,i.bytes))=some (some (.int .i64 0),1,8):=by kernel_rfl
theorem P8{P:Program}{t e:TypeId}{z:Value}{size bytes:Nat}(ht:P.underlying t=some (.slice e))(hinfo:(P.info? e).map (fun i=>(i.zero,i.size,i.bytes))=some (some z,size,bytes))(hb:(bytes:Int)*48≤281474976710656){cs:Array Value}(hcs:madeCells z.cells (48*size)=cs):∀W:World,(Instr.makeSlice t (.int .i64 48) (.int .i64 48)).run P W= .ok (.slice (some ⟨W.heap.size,0,none⟩) 48 48) (W.alloc (.cells cs e)):=fun W=>by obtain⟨i,hi,h0⟩:=Option.map_eq_some_iff.1 hinfo;simp only [Prod.mk.injEq]at h0;obtain⟨hz,hs,h1⟩:=h0;have:=run_make (P:=P) W t e i z ht hi hz .i64 .i64 48 48 (by omega) (by omega) (by rw [h1];exact hb) (by omega);rw [hs]at this;rw [←hcs];exact this
theorem m0h:∀W:World,(Instr.makeSlice 40 (.int .i64 48) (.int .i64 48)).run Tryz.prog W= .ok (.slice (some ⟨W.heap.size,0,none⟩) 48 48) (W.alloc (.cells Ay 89)):=
 P8 (by kernel_rfl) t7 (by omega) (by kernel_rfl)
theorem m0k:∀W:World,(Instr.makeSlice 41 (.int .i64 48) (.int .i64 48)).run Tryz.prog W= .ok (.slice (some ⟨W.heap.size,0,none⟩) 48 48) (W.alloc (.cells Az 3)):=
 P8 (by kernel_rfl) ta (by omega) (by kernel_rfl)
end
section
open Go.RowKit Go.PlainAid
theorem q0m(w:World):Calls Tryz.prog 86 #[] w fun e w'=>∃b b',e= .returned (.agg #[.slice (some ⟨b,0,none⟩) 48 48,.slice (some ⟨b',0,none⟩) 48 48])∧w'.heap[b]?=some (.cells Ay 89)∧w'.heap[b']?=some (.cells Az 3)∧Below w.heap.size w w'∧w.heap.size <b∧w.heap.size <b'∧b≠b':=by
 have h1:=m0h;have h2:=m0k;go_enter Tryz.func86,Tryz.ntmps86;go_wp2;go_region_with (fail)
 ·clear h1 h2;go_wp2
  have e0:∀(a b c:Obj),(((w.alloc a).alloc b).alloc c).drew.heap[w.heap.size]?=some a:=fun a b c=>by show(((w.alloc a).alloc b).alloc c).heap[w.heap.size]?=some a;rw [heap_alloc_old _ _ (by simp;omega),heap_alloc_old _ _ (by simp)];exact A_ w a
  refine bodyPost_ret (results_cell_row rfl _ _ w.heap.size _ _ (0,0) _ rfl (e0 _ _ _) Tryz.underlying43 rfl d8) rfl ?_
  have e1:∀(a b c:Obj),(((w.alloc a).alloc b).alloc c).drew.heap[w.heap.size+1]?=some b:=fun a b c=>by show(((w.alloc a).alloc b).alloc c).heap[w.heap.size+1]?=some b;rw [heap_alloc_old _ _ (by simp)];have:=A_ (w.alloc a) b;simpa using this
  have e2:∀(a b c:Obj),(((w.alloc a).alloc b).alloc c).drew.heap[w.heap.size+1+1]?=some c:=fun a b c=>by show(((w.alloc a).alloc b).alloc c).heap[w.heap.size+1+1]?=some c;have:=A_ ((w.alloc a).alloc b) c;simpa using this
  exact⟨_,_,rfl,e1 _ _ _,e2 _ _ _,(((br.alloc ler _).alloc (by simp) _).alloc (by simp;omega) _).drew,by omega,by omega,by omega⟩
 ·clear h1 h2;go_wp2
  have e0:∀(a b c:Obj),(((w.alloc a).alloc b).alloc c).drew.heap[w.heap.size]?=some a:=fun a b c=>by show(((w.alloc a).alloc b).alloc c).heap[w.heap.size]?=some a;rw [heap_alloc_old _ _ (by simp;omega),heap_alloc_old _ _ (by simp)];exact A_ w a
  refine bodyPost_ret (results_cell_row rfl _ _ w.heap.size _ _ (0,0) _ rfl (e0 _ _ _) Tryz.underlying43 rfl d8) rfl ?_
  have e1:∀(a b c:Obj),(((w.alloc a).alloc b).alloc c).drew.heap[w.heap.size+1]?=some b:=fun a b c=>by show(((w.alloc a).alloc b).alloc c).heap[w.heap.size+1]?=some b;rw [heap_alloc_old _ _ (by simp)];have:=A_ (w.alloc a) b;simpa using this
  have e2:∀(a b c:Obj),(((w.alloc a).alloc b).alloc c).drew.heap[w.heap.size+1+1]?=some c:=fun a b c=>by show(((w.alloc a).alloc b).alloc c).heap[w.heap.size+1+1]?=some c;have:=A_ ((w.alloc a).alloc b) c;simpa using this
  exact⟨_,_,rfl,e2 _ _ _,e1 _ _ _,(((br.alloc ler _).alloc (by simp) _).alloc (by simp;omega) _).drew,by omega,by omega,by omega⟩
abbrev b8:Array Value:= #[.slice none 0 0,.slice none 0 0]
abbrev p8(b b':Nat):Array Value:= #[.slice (some ⟨b,0,none⟩) 48 48,.slice (some ⟨b',0,none⟩) 48 48]
theorem su:∀x:aa,x.cells.length=2:=fun _=>rfl
theorem Rf{W:World}{base size n b:Nat}{t:TypeId}{cs:Array Value}{xs:List Value}(h:W.heap[b]?=some (.cells cs t (0,0)))(hx:cs.toList=xs)(hn:cs.size=n*size)(hb:base≤b)(hm:n≤maxLen):af W base size (.slice (some ⟨b,0,none⟩) n n) n xs:=by
 subst hx;refine⟨by simpa using hn,.inr ⟨b,0,n,rfl,hb,ag h,Nat.le_refl _,hm,fun j u hu=>?_,fun j hj=>⟨?_,?_⟩⟩⟩
 ·rw [Nat.zero_add,aj h];simpa using hu
 ·rw [Nat.zero_add,aj h];have:j <cs.size:=by omega
  simp [this]
 ·rw [Nat.zero_add];exact ak h j
theorem af.here{W:World}{base size n c b o j:Nat}{xs:List Value}{u:Value}(h:af W base size (.slice (some ⟨b,o,none⟩) n c) n xs)(hu:xs[j]?=some u):W.cell? ⟨b,o+j,none⟩=some u∧W.frozen? ⟨b,o+j,none⟩=false:=by obtain⟨_,_,_,e1,_,_,c1,f1⟩:=h.at_ hu;injection e1 with e1 _ _;injection e1 with e1;injection e1 with e1 e2 _;subst e1;subst e2;exact⟨c1,f1⟩
def plF(s:ByteArray)(i:Nat):List aa:=jPl s i++List.replicate (48-i) ⟨0,0⟩
def gnF(s:ByteArray)(i:Nat):List Int:=jGs s i++List.replicate (48-i) 0
theorem wu:∀l:List aa,(l.flatMap aa.cells).length=2*l.length
 | []=>rfl
 |x::r=>by rw [List.flatMap_cons,List.length_append,wu r];simp [aa.cells];omega
theorem j0a(s:ByteArray){i:Nat}(h:i <48):(((plF s i).flatMap aa.cells).set (i*2) (.int .i64 (jpl s (am s i)).Cell)).set (i*2+1) (.int .i64 (jpl s (am s i)).Nth)=(plF s (i+1)).flatMap aa.cells:=by
 unfold plF;rw [show 48-i=(48- (i+1))+1 by omega,List.replicate_succ,U0,List.flatMap_append,List.flatMap_append,List.flatMap_append,List.flatMap_cons];have hl:((jPl s i).flatMap aa.cells).length=i*2:=by rw [wu,J7];omega
 generalize(jPl s i).flatMap aa.cells=U at*;rw [List.set_append_right _ _ (by omega),List.set_append_right _ _ (by omega),show i*2-U.length=0 by omega,show i*2+1-U.length=1 by omega];simp [aa.cells]
theorem q0c(s:ByteArray){i:Nat}(h:i <48):((gnF s i).map (Value.int .i64)).set i (.int .i64 (jV s (am s i)))=(gnF s (i+1)).map (Value.int .i64):=by
 unfold gnF;rw [show 48-i=(48- (i+1))+1 by omega,List.replicate_succ,U1,List.map_append,List.map_append,List.map_append,List.map_cons];have hl:((jGs s i).map (Value.int .i64)).length=i:=by rw [List.length_map,J8]
 generalize(jGs s i).map (Value.int .i64)=U at*;rw [List.set_append_right _ _ (by omega),show i-U.length=0 by omega];simp
theorem j0b(s:ByteArray){i:Nat}(h:i <48):((plF s i).flatMap aa.cells)[i*2]?=some (.int .i64 0)∧((plF s i).flatMap aa.cells)[i*2+1]?=some (.int .i64 0):=by
 unfold plF;rw [show 48-i=(48- (i+1))+1 by omega,List.replicate_succ,List.flatMap_append,List.flatMap_cons];have hl:((jPl s i).flatMap aa.cells).length=i*2:=by rw [wu,J7];omega
 generalize(jPl s i).flatMap aa.cells=U at*;generalize List.flatMap aa.cells (List.replicate (48- (i+1)) ⟨0,0⟩)=V at*;rw [show aa.cells ⟨0,0⟩=[.int .i64 0,.int .i64 0]from rfl,List.getElem?_append_right (by omega),List.getElem?_append_right (l₁:=U) (by omega),show i*2-U.length=0 by omega,show i*2+1-U.length=1 by omega];exact⟨rfl,rfl⟩
theorem q0d(s:ByteArray){i:Nat}(h:i <48):((gnF s i).map (Value.int .i64))[i]?=some (.int .i64 0):=by
 unfold gnF;rw [show 48-i=(48- (i+1))+1 by omega,List.replicate_succ,List.map_append];have hl:((jGs s i).map (Value.int .i64)).length=i:=by rw [List.length_map,J8]
 generalize(jGs s i).map (Value.int .i64)=U at*;rw [List.getElem?_append_right (by omega),show i-U.length=0 by omega];rfl
theorem I5(s:ByteArray):plF s 48=jPl s 48∧gnF s 48=jGs s 48:=by simp [plF,gnF]
theorem Zd(s:ByteArray):Ay.toList=(plF s 0).flatMap aa.cells:=by unfold Ay plF;simp [jPl];rfl
theorem Ze(s:ByteArray):Az.toList=(gnF s 0).map (Value.int .i64):=by unfold Az gnF;simp [jGs]
theorem q0y(xs:List Int):xs.flatMap (fun z=>[Value.int .i64 z])=xs.map (Value.int .i64):=by
 induction xs with
 |nil=>rfl
 |cons x r ih=>simp [List.flatMap_cons,ih]
theorem qb{w:World}{base n c:Nat}{A:Option Addr}{xs:List Int}(h:af w base 1 (.slice A n c) n (xs.map (Value.int .i64))):ab w w.heap.size A n c (fun z=>[.int .i64 z]) 1 xs:=by rw [←q0y]at h;exact h.rows (enc:=fun z=>[Value.int .i64 z]) (k:=1) (fun _=>rfl) Nat.one_pos
theorem zd(w:World)(B:Nat):ab w B none 0 0 aa.cells 2 ([]:List aa):=⟨rfl,Nat.le_refl _,zl,fun i x h=>by simp at h⟩
theorem vj(w:World)(B:Nat):ab w B none 0 0 (fun z=>[.int .i64 z]) 1 ([]:List Int):=⟨rfl,Nat.le_refl _,zl,fun i x h=>by simp at h⟩
def pr(s:ByteArray)(w:World)(e:Ending)(w':World):Prop:=∃A n c A' n' c',e= .returned (.tuple #[.agg #[.slice A n c,.slice A' n' c'],.int .i64 (kr s)])∧ab w' w'.heap.size A n c aa.cells 2 (qg s)∧ab w' w'.heap.size A' n' c' (fun z=>[.int .i64 z]) 1 (nt s)∧Below w.heap.size w w'
theorem oz{s:ByteArray}{w w':World}(h:¬jr s)(hb:Below w.heap.size w w'):pr s w (.returned (.tuple #[.agg b8,.int .i64 4])) w':=by obtain⟨a,b,c⟩:=Ub h;exact⟨none,0,0,none,0,0,by rw [a],by rw [b];exact zd _ _,by rw [c];exact vj _ _,hb⟩
structure mc(s:ByteArray)(w wr:World)(b b' M i:Nat):Prop where
 all:∀j,j <i→JOk s (am s j)
 ats:af wr (w.heap.size+1) 2 (.slice (some ⟨b,0,none⟩) 48 48) 48 ((plF s i).flatMap aa.cells)
 gens:af wr (w.heap.size+1) 1 (.slice (some ⟨b',0,none⟩) 48 48) 48 ((gnF s i).map (Value.int .i64))
 ne:b≠b'∧b≠M∧b'≠M
 gt:w.heap.size <b∧w.heap.size <b'∧w.heap.size <M
 m:wr.heap[M]?=some (.cells (p8 b b') 43 (0,0))
 res:wr.heap[w.heap.size]?=some (.cells b8 43 (0,0))
 bel:Below w.heap.size w wr
theorem af.set0{W:World}{base size n c b:Nat}{xs:List Value}(h:af W base size (.slice (some ⟨b,0,none⟩) n c) n xs)(j:Nat)(u:Value):af (W.setCell ⟨b,j,none⟩ u) base size (.slice (some ⟨b,0,none⟩) n c) n (xs.set j u):=by have:=h.set j u;rw [Nat.zero_add]at this;exact this
theorem mc.stepA{s:ByteArray}{w wr:World}{b b' M i:Nat}{B1 B2 V:Int}(h:mc s w wr b b' M i)(hok:JOk s (am s i))(hp:(((plF s i).flatMap aa.cells).set (i*2) (.int .i64 B1)).set (i*2+1) (.int .i64 B2)=(plF s (i+1)).flatMap aa.cells)(hg:((gnF s i).map (Value.int .i64)).set i (.int .i64 V)=(gnF s (i+1)).map (Value.int .i64)):mc s w (((wr.setCell ⟨b',i,none⟩ (.int .i64 V)).setCell ⟨b,i*2,none⟩ (.int .i64 B1)).setCell ⟨b,i*2+1,none⟩ (.int .i64 B2)) b b' M (i+1):=by
 obtain⟨n1,n2,n3⟩:=h.ne;obtain⟨g1,g2,g3⟩:=h.gt;have o1:Value.ownBlock (.slice (some ⟨b,0,none⟩) 48 48)≠some b':=fun e=>n1 (by simpa [Value.ownBlock]using e)
 have o2:Value.ownBlock (.slice (some ⟨b',0,none⟩) 48 48)≠some b:=fun e=>n1 ((by simpa [Value.ownBlock]using e:b'=b)).symm
 refine⟨fun j hj=>?_,?_,?_,h.ne,h.gt,?_,?_,?_⟩
 ·by_cases e:j=i
  ·subst e;exact hok
  ·exact h.all j (by omega)
 ·rw [←hp];exact((h.ats.setOther o1 _).set0 _ _).set0 _ _
 ·rw [←hg];exact((h.gens.set0 _ _).setOther o2 _).setOther o2 _
 ·exact cp (cp (cp h.m (fun e=>n3 e.symm)) (fun e=>n2 e.symm)) (fun e=>n2 e.symm)
 ·exact cp (cp (cp h.res (show w.heap.size≠b' by omega)) (show w.heap.size≠b by omega)) (show w.heap.size≠b by omega)
 ·exact((h.bel.setCell (show w.heap.size≤b' by omega) _).setCell (show w.heap.size≤b by omega) _).setCell (show w.heap.size≤b by omega) _
theorem mc.stepB{s:ByteArray}{w wr:World}{b b' M i:Nat}{B1 B2 V:Int}(h:mc s w wr b b' M i)(hok:JOk s (am s i))(hp:(((plF s i).flatMap aa.cells).set (i*2) (.int .i64 B1)).set (i*2+1) (.int .i64 B2)=(plF s (i+1)).flatMap aa.cells)(hg:((gnF s i).map (Value.int .i64)).set i (.int .i64 V)=(gnF s (i+1)).map (Value.int .i64)):mc s w (((wr.setCell ⟨b,i*2,none⟩ (.int .i64 B1)).setCell ⟨b,i*2+1,none⟩ (.int .i64 B2)).setCell ⟨b',i,none⟩ (.int .i64 V)) b b' M (i+1):=by
 obtain⟨n1,n2,n3⟩:=h.ne;obtain⟨g1,g2,g3⟩:=h.gt;have o1:Value.ownBlock (.slice (some ⟨b,0,none⟩) 48 48)≠some b':=fun e=>n1 (by simpa [Value.ownBlock]using e)
 have o2:Value.ownBlock (.slice (some ⟨b',0,none⟩) 48 48)≠some b:=fun e=>n1 ((by simpa [Value.ownBlock]using e:b'=b)).symm
 refine⟨fun j hj=>?_,?_,?_,h.ne,h.gt,?_,?_,?_⟩
 ·by_cases e:j=i
  ·subst e;exact hok
  ·exact h.all j (by omega)
 ·rw [←hp];exact((h.ats.set0 _ _).set0 _ _).setOther o1 _
 ·rw [←hg];exact((h.gens.setOther o2 _).setOther o2 _).set0 _ _
 ·exact cp (cp (cp h.m (fun e=>n2 e.symm)) (fun e=>n2 e.symm)) (fun e=>n3 e.symm)
 ·exact cp (cp (cp h.res (show w.heap.size≠b by omega)) (show w.heap.size≠b by omega)) (show w.heap.size≠b' by omega)
 ·exact((h.bel.setCell (show w.heap.size≤b by omega) _).setCell (show w.heap.size≤b by omega) _).setCell (show w.heap.size≤b' by omega) _
theorem mc.drew{s:ByteArray}{w wr:World}{b b' M i:Nat}(h:mc s w wr b b' M i):mc s w wr.drew b b' M i:=⟨h.all,h.ats,h.gens,h.ne,h.gt,h.m,h.res,h.bel.drew⟩
theorem a0z:(⟨#[]⟩:ByteArray).toList=[]:=by unfold ByteArray.toList ByteArray.toList.loop;rw [if_neg (by decide)];rfl
theorem Nn{T:ByteArray}(h:0 <T.size):T.toList≠ []:=by intro(e:T.toList=[]);have e2:T=⟨#[]⟩:=yf (e.trans a0z.symm);rw [e2]at h;exact absurd h (by decide)
theorem Nr(s:ByteArray):tl s 0=s:=by unfold tl;simp
theorem J4{W:World}{M:Nat}{u v:Value}(h:W.cell? ⟨M,0,none⟩=some u∧W.cell? ⟨M,1,none⟩=some v):W.drew.cell? ⟨M,0,none⟩=some u∧W.drew.cell? ⟨M,1,none⟩=some v:=h
theorem J3{W:World}{M b k:Nat}{u v x:Value}(hb:M≠b)(h:W.cell? ⟨M,0,none⟩=some u∧W.cell? ⟨M,1,none⟩=some v):(W.setCell ⟨b,k,none⟩ x).cell? ⟨M,0,none⟩=some u∧(W.setCell ⟨b,k,none⟩ x).cell? ⟨M,1,none⟩=some v:=
 ⟨(World.cell?_setCell_other _ _ _ _ (fun e=>hb (by injection e with e;exact e.symm))).trans h.1,(World.cell?_setCell_other _ _ _ _ (fun e=>hb (by injection e with e;exact e.symm))).trans h.2⟩
theorem o0d{W:World}{M b k k':Nat}{u v x y:Value}(hb:M≠b)(h:W.cell? ⟨M,0,none⟩=some u∧W.cell? ⟨M,1,none⟩=some v):((W.setCell ⟨b,k,none⟩ x).setCell ⟨b,k',none⟩ y).cell? ⟨M,0,none⟩=some u∧((W.setCell ⟨b,k,none⟩ x).setCell ⟨b,k',none⟩ y).cell? ⟨M,1,none⟩=some v:=J3 hb (J3 hb h)
end
section
open Go.RowKit
def gq(v v':Value):Prop:=∀g,v.ownBlock=some g→v'.ownBlock≠some g
theorem gq.nil(v:Value)(n c:Nat):gq (.slice none n c) v:=fun g h=>by cases h
theorem gq.symm{v v':Value}(h:gq v v'):gq v' v:=fun g e e'=>h g e' e
theorem gq.grow{v v' v2:Value}{N:Nat}(h:gq v v')(hg:v2.ownBlock=v.ownBlock∨∀k,v2.ownBlock=some k→N≤k)(hl:∀g,v'.ownBlock=some g→g <N):gq v2 v':=fun g e e'=>by
 rcases hg with hg|hg
 ·exact h g (hg▸e) e'
 ·have:=hg g e;have:=hl g e';omega
theorem gq.other{v v':Value}(h:gq v v'):v'.ownBlock=none∨v'.ownBlock≠v.ownBlock:=by
 cases e:v'.ownBlock with
 |none=>exact .inl rfl
 |some g=>exact .inr fun e'=>h g e'.symm e
theorem af.apart{w w':World}{base base' size n:Nat}{v v':Value}{xs:List Value}(h:af w base size v' n xs)(hl:ed w w' base' v.ownBlock)(ha:gq v v'):af w' base size v' n xs:=h.left hl ha.other
theorem ur{α:Type}{enc:α→List Value}{k n c B:Nat}{A:Option Addr}{xs:List α}{w:World}(h:ab w B A n c enc k xs)(h0:0 <n):∃b o,A=some ⟨b,o,none⟩∧b <B:=by have hl:=h.len;obtain⟨b,o,e,hb,_⟩:=h.at_ 0 _ (gE (by omega));exact⟨b,o,e,hb⟩
theorem Pm{α:Type}{f:α→Value}{n c B b o:Nat}{xs:List α}{w:World}(h:ab w B (some ⟨b,o,none⟩) n c (fun x=>[f x]) 1 xs):∀(j:Nat) (u:Value),(xs.map f)[j]?=some u→w.cell? (Addr.add ⟨b,o,none⟩ j)=some u:=fun j u hu=>by rw [List.getElem?_map]at hu;obtain⟨x,hx,rfl⟩:=Option.map_eq_some_iff.1 hu;obtain⟨b',o',e,_,hc⟩:=h.one hx;injection e with e;injection e with e1 e2 _;subst e1;subst e2;rw [ms];exact hc
section
variable {P:Program} {w:World} {ops:Array Oper} {o:Oper} {a:Act} {K:Act→World→Prop} {Q:Exit→Act→World→Prop} {E:Prop}
theorem G9(hgd:o.guard=none)(s x:Operand)(t:TypeId)(ho:o.op= .call {callee:=.builtin .append,args:= #[s,x],argTypes:= #[t,t]})
 {e:TypeId} {z:Value} {size bytes:Nat} (ht:P.underlying t=some (.slice e)) (hinfo:(P.info? e).map (fun i=>(i.zero,i.size,i.bytes))=some (some z,size,bytes)) (hzs:z.cells.size=size) (hsz:0 <size)
 {base:Nat} (A:Option Addr) (n c0:Nat) (xs:List Value) (hs:a.eval s= .slice A n c0) (hown:af w base size (.slice A n c0) n xs) (hbase:base≤w.heap.size)
 (ad:Addr) (m c:Nat) (news:List Value) (hx:a.eval x= .slice (some ad) m c) (hl:news.length=m*size) (hnews:∀j u,news[j]?=some u→w.cell? (ad.add j)=some u) (h1:∀u∈news,u.oneCell'=true)
 (h63:n+m≤maxLen) (hbytes:(n+m)*bytes≤140737488355328)
 (h:∀A' c' w',af w' base size (.slice A' (n+m) c') (n+m) (xs++news)→ed w w' base (Value.ownBlock (.slice A n c0))→(Value.ownBlock (.slice A' (n+m) c')=Value.ownBlock (.slice A n c0)∨∀k,Value.ownBlock (.slice A' (n+m) c')=some k→w.heap.size≤k)→K (a.put o.dst (.slice A' (n+m) c')) w'):
 if Region.wanted o (yielded ops a.tmps)=true then Oper.wp P o a w K Q else E:=by
 have hw:Region.wanted o (yielded ops a.tmps)=true:=by simp [Region.wanted,hgd]
 rw [if_pos hw]
 obtain⟨v',w',h0,h2,h3,h4⟩:=yq (P:=P) (ty:=o.type) ht hinfo hzs hsz hown hbase ad m c news hl hnews h1 h63 hbytes
 unfold Oper.wp execOp
 simp only [ho,resolve,invoke,builtin,Sem.run_bind,Sem.run_pure,Result.andThen_ok,List.map_toArray,List.map_cons,List.map_nil,hs,hx,h0]
 obtain⟨A',c',rfl⟩:=h2.form
 exact h A' c' w' h2 h3 h4
end
end
end Go.Proofs.YtcldpfhpkbeaiadGreat
