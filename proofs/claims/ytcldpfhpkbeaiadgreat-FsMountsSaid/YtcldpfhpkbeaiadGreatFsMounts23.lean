/- A part of the proof of FsMounts. No condition of ours. -/
import Derived.Test.YtcldpfhpkbeaiadGreatFsMounts22
set_option maxRecDepth 20000
set_option maxHeartbeats 2000000
namespace Go.Proofs.YtcldpfhpkbeaiadGreat
open Go.RowKit Go.PlainAid
theorem gp.past{b M:Nat}{w w':World}{l:List Int}{k:Nat}(h:gp b w l k)(hM:M <b)(hg:w.grownBy w' (some M)):gp b w' l k:=by obtain⟨hz,cs,h1,h2,h3⟩:=h;refine⟨Nat.le_trans hz hg.size,cs,(hg.block b (by omega) (fun e=>by injection e with e;omega)).trans h1,h2,fun i hi=>?_⟩;obtain⟨v,hv,ho⟩:=h3 i hi;exact⟨v,hv,ho.kept (fun g hg2=>hg.block g (ho.lt g hg2).2 (fun e=>by injection e with e;have:=(ho.lt g hg2).1;omega)) hg.size⟩
def BkV(N:Nat)(v:Value)(w:World)(l:List Int):Prop:=∃b,v= .slice (some ⟨b,0,none⟩) l.length l.length∧N+2≤b∧gp b w l l.length
theorem BkV.keep{N:Nat}{v:Value}{w w':World}{l:List Int}(h:BkV N v w l)(hb:Below w.heap.size w w'):BkV N v w' l:=by obtain⟨b,e,h1,h2⟩:=h;exact⟨b,e,h1,h2.keep hb⟩
theorem BkV.past{N:Nat}{v:Value}{w w':World}{l:List Int}(h:BkV N v w l)(hg:w.grownBy w' (some N)):BkV N v w' l:=by obtain⟨b,e,h1,h2⟩:=h;exact⟨b,e,h1,h2.past (by omega) hg⟩
structure BkS(s s2 s3:ByteArray)(W wr:World)(i:Nat)(t:ByteArray):Prop where
 sz:W.heap.size+2≤wr.heap.size
 bel:Below W.heap.size W wr
 wants:wr.heap[W.heap.size+1]?=some (.cells #[.int .i64 320,.int .i64 9] 3 (0,0))
 ts:t.size≤1048575
 st:∃v0 v1,wr.heap[W.heap.size]?=some (.cells #[v0,v1] 205 (0,0))∧((i=0∧t=s)∨(i=1∧fm s 320∧t=s2∧BkV W.heap.size v0 wr (rrX s))∨(i=2∧fm s 320∧fm s2 9∧t=s3∧BkV W.heap.size v0 wr (rrX s)∧BkV W.heap.size v1 wr (rrX s2)))
theorem BkS.step{s s2 s3 t:ByteArray}{W wr:World}{i m:Nat}(h:BkS s s2 s3 W wr i t)(hi:i <2)(e2:s2=aw s (ct s).toNat)(e3:s3=aw s2 (ct s2).toNat):∃(want:Nat) (u:Value),want≤320∧wr.cell? ⟨W.heap.size+1,i,none⟩=some (.int .i64 want)∧wr.cell? ⟨W.heap.size,i,none⟩=some u∧wr.frozen? ⟨W.heap.size,i,none⟩=false∧W.heap.size <wr.heap.size∧(¬fm t want→gy s m=none)∧(fm t want→∀(b:Nat) (w5:World),Below wr.heap.size wr w5→wr.heap.size≤b→gp b w5 (rrX t) (rrX t).length→BkS s s2 s3 W (w5.setCell ⟨W.heap.size,i,none⟩ (.slice (some ⟨b,0,none⟩) (rrX t).length (rrX t).length)) (i+1) (aw t (ct t).toNat)):=by
 obtain⟨v0,v1,hr,hc⟩:=h.st;have h3:=h.sz;have h2:=h.bel
 have h0:∀(b:Nat) (w5:World),Below wr.heap.size wr w5→∀u:Value,W.heap.size+2≤(w5.setCell ⟨W.heap.size,i,none⟩ u).heap.size∧Below W.heap.size W (w5.setCell ⟨W.heap.size,i,none⟩ u)∧(w5.setCell ⟨W.heap.size,i,none⟩ u).heap[W.heap.size+1]?=some (.cells #[.int .i64 320,.int .i64 9] 3 (0,0))∧(aw t (ct t).toNat).size≤1048575∧(w5.setCell ⟨W.heap.size,i,none⟩ u).heap[W.heap.size]?=some (.cells ((#[v0,v1]:Array Value).setIfInBounds i u) 205 (0,0)):=by
  intro b w5 hb u;have h1:=hb.size;refine⟨by simp [World.setCell];omega,(h2.trans (hb.mono (by omega))).setCell ler _,?_,Nat.le_trans (ry _ _) h.ts,?_⟩
  ·rw [heap_setCell_other _ _ _ _ (show W.heap.size+1≠W.heap.size by omega),hb.block _ (by omega)];exact h.wants
  ·exact b9 (ah hr (by omega) hb)
 rcases hc with⟨rfl,rfl⟩|⟨rfl,hl,rfl,hv⟩|⟨rfl,_⟩
 ·refine⟨320,v0,by omega,aj h.wants 0,aj hr 0,ak hr 0,by omega,fun hn=>T6 hn,fun hy b w5 hb hbb hw=>?_⟩;obtain⟨k1,k2,k3,k4,k5⟩:=h0 b w5 hb (.slice (some ⟨b,0,none⟩) (rrX t).length (rrX t).length);exact⟨k1,k2,k3,k4,_,v1,k5,.inr (.inl ⟨rfl,hy,e2.symm,b,rfl,by omega,hw.past (by omega) rt⟩)⟩
 ·refine⟨9,v1,by omega,aj h.wants 1,aj hr 1,ak hr 1,by omega,fun hn=>T5 hl e2 hn,fun hy b w5 hb hbb hw=>?_⟩;obtain⟨k1,k2,k3,k4,k5⟩:=h0 b w5 hb (.slice (some ⟨b,0,none⟩) (rrX t).length (rrX t).length);exact⟨k1,k2,k3,k4,v0,_,k5,.inr (.inr ⟨rfl,hl,hy,e3.symm,(hv.keep hb).past rt,b,rfl,by omega,hw.past (by omega) rt⟩)⟩
 ·omega
def xu(s:ByteArray)(m:Nat)(W:World)(e:Ending)(w':World):Prop:=∃(A:Option Addr) (n c:Nat) (ok:Bool) (L:List bc),e= .returned (.tuple #[.slice A n c,.bool ok])∧ab w' w'.heap.size A n c bc.cells 3 L∧(∀z∈L,bc.ok z)∧L.length≤512∧Below W.heap.size W w'∧((ok=false∧gy s m=none)∨(ok=true∧gy s m=some L))
theorem Px{s:ByteArray}{m:Nat}{W w':World}(h:gy s m=none)(hb:Below W.heap.size W w'):xu s m W (.returned (.tuple #[.slice none 0 0,.bool false])) w':=⟨none,0,0,false,[],rfl,Sh _,fun z hz=>by simp at hz,by simp,hb,.inl ⟨rfl,h⟩⟩
theorem w0f{M2 C2 k2 y a1 a2 n:Nat}(h:decide (M2 <k2+y)=false)(hl:M2≤C2)(_hk2:a2=a1+k2)(hb:a2≤8*n)(hn:n≤1048575):k2≤M2∧k2≤C2∧k2+y≤C2∧(k2:Int)≤(k2:Int)+(y:Int)∧(k2:Int)+(y:Int)≤(C2:Int)∧(k2:Int)+(y:Int)≤(M2:Int)∧(k2:Int)≤8388600:=by have h:=of_decide_eq_false h;exact⟨by omega,by omega,by omega,by omega,by omega,by omega,by omega⟩
theorem r0m{n a1 a2 k2 M2 y:Nat}(hM:M2=8*n-a1)(hk2:a2=a1+k2)(_ha1:a1≤8*n)(hf:8*n <a2+y):decide ((M2:Int) < (k2:Int)+(y:Int))=true∧decide (M2 <k2+y)=true:=⟨dT (by omega),dT (by omega)⟩
theorem r0n{n a1 a2 k2 M2 y:Nat}(hM:M2=8*n-a1)(hk2:a2=a1+k2)(_ha1:a1≤8*n)(hf:¬8*n <a2+y):decide ((M2:Int) < (k2:Int)+(y:Int))=false∧decide (M2 <k2+y)=false:=⟨dF (by omega),dF (by omega)⟩
theorem k0j{n a1 a2 k2 M2 y:Nat}(hM:M2=8*n-a1)(_:a2=a1+k2)(h:decide (M2 <k2+y)=false):k2+y≤M2:=by have h:=of_decide_eq_false h;omega
theorem b0u{t:ByteArray}{w6:World}{A:Option Addr}{M c a a1 k:Nat}(r:ab w6 w6.heap.size A M c (fun z=>[.int .i64 z]) 1 ((tbL t).drop a))(hk:a1=a+k)(_h1:a1≤8*t.size)(y:Nat)(hy:k+y≤M):∃A3 C3,(if c=k then A else A.map (fun x=>x.add k))=A3∧c-k=C3∧ab w6 w6.heap.size A3 y C3 (fun z=>[.int .i64 z]) 1 (((tbL t).drop a1).take y):=by
 have hl:=r.len;rw [List.length_drop,px]at hl;have h0:k≤M:=by omega
 have h2:=r.suf_opt h0;rw [List.drop_drop,←hk]at h2;exact⟨_,_,rfl,rfl,h2.pre (by omega)⟩
theorem Up:∀ {l:List Int},(∀x∈l,0≤x∧x≤1)→(jf l=0↔∀x∈l,x=0)
 | [],_=>by simp [jf]
 |x::r,h=>by have hx:=h x (by simp);have ih:=Up (l:=r) (fun y hy=>h y (by simp [hy]));have hb:=Jj r (fun y hy=>h y (by simp [hy]));simp only [jf,List.mem_cons,forall_eq_or_imp];rw [←ih];omega
theorem r0d{t:ByteArray}{a:Nat}(ha:a≤8*t.size):lr t a↔8*t.size-a <8∧∀x∈(tbL t).drop a,x=0:=by unfold lr;have h1:=Us t a (8*t.size-a) (by omega);rw [List.take_of_length_le (by rw [List.length_drop,px];omega)]at h1;rw [←h1,Up (fun x hx=>G7 t x (List.mem_of_mem_drop hx))]
theorem uk{t:ByteArray}{w6:World}{A:Option Addr}{M c a a1 k:Nat}(r:ab w6 w6.heap.size A M c (fun z=>[.int .i64 z]) 1 ((tbL t).drop a))(hk:a1=a+k)(h1:a1≤8*t.size):k≤M∧k≤c∧ab w6 w6.heap.size (if c=k then A else A.map (fun x=>x.add k)) (M-k) (c-k) (fun z=>[.int .i64 z]) 1 ((tbL t).drop a1)∧M-k=8*t.size-a1:=by
 have hl:=r.len;rw [List.length_drop,px]at hl;have h2:=r.le;have h0:k≤M:=by omega
 refine⟨h0,by omega,?_,by omega⟩;have:=r.suf_opt h0;rw [List.drop_drop,←hk]at this;exact this
theorem f0x(s s2 s3:ByteArray)(m:Nat)(W:World)(hs:s.size≤1048575)(e2:s2=aw s (ct s).toNat)(e3:s3=aw s2 (ct s2).toNat)(hm:m≤512):Calls Tryz.prog 101 #[.string s,.int .i64 m] W (xu s m W):=by
 have gW:=h_ (fun(wr:World) (i:Nat) (t:ByteArray) (h:BkS s s2 s3 W wr i t) (hi:i <2)=>h.step (m:=m) hi e2 e3);have gb:=h_ (fun(h:gy s m=none) (w':World) hb=>Px (s:=s) (m:=m) (W:=W) (w':=w') h hb);have HR:Hid (∀(t:ByteArray) V,t.size≤1048575→Calls Tryz.prog 123 #[.string t] V fun e w'=>∃A q c,e= .returned (.tuple #[.slice A q c,.int .i64 (ct t),.int .i64 (rrE t)])∧ab w' w'.heap.size A q c (fun z=>[.int .i64 z]) 1 (rrX t)∧Below V.heap.size V w'):=fun t V ht=>e0m t V (by omega)
 have HC:Hid (∀(t:ByteArray) (A:Option Addr) (n c:Nat) (V:World),ab V V.heap.size A n c (fun z=>[.int .i64 z]) 1 (rrX t)→Calls Tryz.prog 124 #[.slice A n c] V fun e w'=>∃A q c,e= .returned (.tuple #[.slice A q c,.int .i64 (dt (rrX t))])∧Below V.heap.size V w'):=fun t A n c V r=>(Xg A n c (rrX t) V r).mono (by rintro e w' ⟨A',q,c',h1,_,h2⟩;exact⟨A',q,c',h1,h2⟩)
 have gU:Hid (BkS s s2 s3 W ((W.alloc (.cells #[.slice none 0 0,.slice none 0 0] 205)).alloc (.cells #[.int .i64 320,.int .i64 9] 3)) 0 s):=
  ⟨by simp,(br.alloc ler _).alloc (by simp) _,by have:=A_ (W.alloc (.cells #[.slice none 0 0,.slice none 0 0] 205)) (.cells #[.int .i64 320,.int .i64 9] 3);simpa using this,hs,_,_,(heap_alloc_old _ _ (by simp)).trans (A_ W _),.inl ⟨rfl,rfl⟩⟩
 go_enter Tryz.func101,Tryz.ntmps101;go_wp2;go_loopw [0,7,8,9,10,11,12,13,24] (fun v0 _ _ _ _ _ _ _ v24 wr=>∃(i:Nat) (t:ByteArray),i≤2∧v24= .int .i64 i∧v0= .string t∧Hid (BkS s s2 s3 W wr i t)) (fun _ _ _ _ _ _ _ _ v24 _=>2- (intOf v24).toNat)
 case atStart=>exact⟨0,s,by omega,rfl,rfl,gU.o⟩
 case round=>
  obtain⟨i,t,hi,rfl,rfl,HB⟩:=hrel;obtain⟨w1,rfl⟩:∃z:World,z=wr:=⟨_,rfl⟩;clear gU;by_cases hlt:i <2
  ·obtain⟨hZ,u,hw320,cw,cu,fu,hK,hS,hU⟩:=gW.o w1 i t HB.o hlt;have hV:=h_ (HR.o t w1 HB.o.ts);have gM:=h_ (HC.o t);have i1:(i:Int) <2:=by omega
   have g1:=h_ HB.o.bel;have hF:=h_ (fun(hn:¬fm t hZ) (w':World) (hb:Below w1.heap.size w1 w')=>gb.o (hS hn) w' (HB.o.bel.trans (hb.mono HB.o.bel.size)));by_cases hE:rrE t=0
   ·by_cases hX:(rrX t).length=hZ
    ·by_cases hCN:dt (rrX t)=0
     ·have gF:=Pg hE;have HY:=h_ (hU ⟨hE,hX,hCN⟩);have x0:Hid (∀(A:Option Addr) (n c:Nat) (V:World),ab V V.heap.size A n c (fun z=>[.int .i64 z]) 1 (rrX t)→Calls Tryz.prog 125 #[.slice A n c] V (Lk (rrX t) V)):=fun A n c V r=>Zh A n c (rrX t) V r hCN
      have d0:(rrE t !=0)=false:=by rw [hE];rfl
      have d1:(((rrX t).length:Int)!=(hZ:Int))=false:=by rw [bne_eq_false_iff_eq];omega
      have d2:(dt (rrX t)!=0)=false:=by rw [hCN];rfl
      obtain⟨k,hk⟩:=Int.eq_ofNat_of_zero_le gF.1;rw [hk]at hV HY gF;rw [Int.toNat_natCast]at HY;have hw:k≤t.size:=by omega
      unfold Lk at x0;clear hS hU hF hE hX hCN hk gF;generalize dt (rrX t)=Z at*;generalize rrX t=X at*;generalize rrE t=E at*
      go_wp2_with(first
       |(go_at_call 123;refine hV.o.mono ?_;rintro e w2 ⟨A1,n1,c1,rfl,r1,ha⟩;obtain rfl:=r1.len;have R1:=h_ r1;have h9:=h_ ha;clear r1 ha)
       |(go_at_call 124;refine(gM.o _ _ _ _ R1.o).mono ?_;rintro e w3 ⟨A2,n2,c2,rfl,hG⟩;have g0:=h_ (h9.o.trans (hG.mono h9.o.size));have R3:=h_ ((R1.o.below hG).more hG.size);clear hG)
       |(go_at_call 125;refine(x0.o _ _ _ _ R3.o).mono ?_;rintro e w4 ⟨bw,rfl,x6,xA,gI⟩;have g9:=h_ (g0.o.trans (gI.mono g0.o.size));have yJ:=(g9.o.cell (p:=⟨W.heap.size,i,none⟩) hK).trans cu;have yH:=(g9.o.frozen (p:=⟨W.heap.size,i,none⟩) hK).trans fu;have HN:=h_ (HY.o bw w4 g9.o (Nat.le_trans g0.o.size x6) xA);clear xA gI x6))
      go_roundw
      case rel=>exact⟨i+1,_,by omega,by go_num,rfl,HN.o⟩
      case measure=>(simp [intOf];try omega)
     ·have HP:=h_ (hF.o (fun h=>hCN h.2.2));have d0:(rrE t !=0)=false:=by rw [hE];rfl
      have d1:(((rrX t).length:Int)!=(hZ:Int))=false:=by rw [bne_eq_false_iff_eq];omega
      have d2:(dt (rrX t)!=0)=true:=by simpa using hCN
      clear hS hU hF hE hX hCN;generalize dt (rrX t)=Z at*;generalize rrE t=E at*;generalize rrX t=X at*;generalize ct t=K at*
      go_wp2_with(first
       |(go_at_call 123;refine hV.o.mono ?_;rintro e w2 ⟨A1,n1,c1,rfl,r1,ha⟩;obtain rfl:=r1.len;have R1:=h_ r1;have h9:=h_ ha;clear r1 ha)
       |(go_at_call 124;refine(gM.o _ _ _ _ R1.o).mono ?_;rintro e w3 ⟨A2,n2,c2,rfl,hG⟩;have g0:=h_ (h9.o.trans (hG.mono h9.o.size));clear hG))
      go_ret2;exact HP.o _ g0.o
    ·have HP:=h_ (hF.o (fun h=>hX h.2.1));have d0:(rrE t !=0)=false:=by rw [hE];rfl
     have d1:(((rrX t).length:Int)!=(hZ:Int))=true:=by rw [bne_iff_ne];omega
     clear hS hU hF hE hX;generalize rrE t=E at*;generalize rrX t=X at*;generalize ct t=K at*;go_wp2_with(go_at_call 123;refine hV.o.mono ?_;rintro e w2 ⟨A1,n1,c1,rfl,r1,ha⟩;obtain rfl:=r1.len;have h9:=h_ ha;clear r1 ha);go_ret2;exact HP.o _ h9.o
   ·have HP:=h_ (hF.o (fun h=>hE h.1));have d0:(rrE t !=0)=true:=by simpa using hE
    clear hS hU hF hE;generalize rrE t=E at*;generalize rrX t=X at*;generalize ct t=K at*;go_wp2_with(go_at_call 123;refine hV.o.mono ?_;rintro e w2 ⟨A1,n1,c1,rfl,r1,ha⟩;have h9:=h_ ha;clear r1 ha);go_ret2;exact HP.o _ h9.o
  ·obtain rfl:i=2:=by omega
   have i1:¬((2:Nat):Int) <2:=by omega
   obtain⟨v0,v1,x2,gZ⟩:=HB.o.st
   obtain⟨hJ,hI,rfl,xE,xK⟩:fm s 320∧fm s2 9∧t=s3∧BkV W.heap.size v0 w1 (rrX s)∧BkV W.heap.size v1 w1 (rrX s2):=by
    rcases gZ with⟨h,_⟩|⟨h,_⟩|⟨_,h⟩
    ·omega
    ·omega
    ·exact h
   obtain⟨b0,rfl,xb,xs⟩:=xE;obtain⟨b1,rfl,ha,gK⟩:=xK;have x3:=HB.o.ts;have xF:=h_ (v0n t w1 x3);have hR:=h_ (fun(h3:mkR (rrX s) (rrX s2) t m 0 []=none) (w':World) hb=>gb.o (T4 hJ e2 hI e3 h3) w' hb);have gT:Hid (∀(L:List bc) (a:Nat) (A:Option Addr) (c:Nat) (ok:Bool) (w':World),mkR (rrX s) (rrX s2) t m 0 []=some (L,a)→L.length=m→(ok=false∧¬lr t a∨ok=true∧lr t a)→ab w' w'.heap.size A L.length c bc.cells 3 L→Below W.heap.size W w'→(∀z∈L,bc.ok z)→xu s m W (.returned (.tuple #[.slice A L.length c,.bool ok])) w'):=fun L a A c ok w' q1 q2 q3 q4 q5 q6=>⟨A,L.length,c,ok,L,rfl,q4,q6,by omega,q5,q3.imp (fun q=>⟨q.1,Is hJ e2 hI e3 q1 q.2⟩) (fun q=>⟨q.1,T3 hJ e2 hI e3 q1 q.2⟩)⟩
   have gY:Hid (∀(L:List bc) (a:Nat) (w':World),mkR (rrX s) (rrX s2) t m 0 []=some (L,a)→¬lr t a→Below W.heap.size W w'→xu s m W (.returned (.tuple #[.slice none 0 0,.bool false])) w'):=fun L a w' q1 q2 q3=>Px (Is hJ e2 hI e3 q1 q2) q3
   have y2:=h_ hJ.2.2;have xI:=h_ hI.2.2;have yA:=h_ hJ.2.1;have xG:=h_ hI.2.1;have g1:=h_ HB.o.bel;have x5:=h_ xs;have gL:=h_ gK;have gw:=h_ x2;have hK:W.heap.size <w1.heap.size:=by have:=HB.o.sz;omega
   clear gZ hJ hI xs gK x2 e2 e3 gW gb HR HC HB xb ha hlt;generalize xu s m W=PP at*;generalize rrX s=X at*;generalize rrX s2=X2 at*;go_wp2_with(go_at_call 126;refine xF.o.mono ?_;rintro e w2 ⟨AB,cB,rfl,rB,gX⟩;have RB:=h_ rB;have h9:=h_ gX;clear rB gX);have hq:=h_ (g1.o.trans (h9.o.mono g1.o.size));have gN:=rc0 (ah gw.o hK h9.o);have x1:=rc1 (ah gw.o hK h9.o);have y6:=h_ gN;have g3:=h_ x1;have hY:W.heap.size <w2.heap.size:=Nat.lt_of_lt_of_le hK h9.o.size;have xT:=h_ (x5.o.keep h9.o);have xS:=h_ (gL.o.keep h9.o);clear gN x1 hK gw h9 g1 x5 gL;go_loopw [14,15,16,17,18,19,61] (fun v14 v15 _ _ _ _ v61 wr=>∃(k a:Nat) (A:Option Addr) (c:Nat) (L:List bc) (AR:Option Addr) (M cR:Nat),k≤m∧v14= .slice AR M cR∧v15= .slice A L.length c∧v61= .int .i64 k∧Hid (MkJ X X2 t m k a L)∧Hid (ab w2 w2.heap.size AR M cR (fun z=>[.int .i64 z]) 1 ((tbL t).drop a))∧Hid (af wr w2.heap.size 3 (.slice A L.length c) L.length (L.flatMap bc.cells))∧Hid (Below w2.heap.size w2 wr)) (fun _ _ _ _ _ _ v61 _=>m- (intOf v61).toNat)
   case atStart=>exact⟨0,0,none,0,[],AB,8*t.size,cB,zl,rfl,rfl,rfl,MkJ.start _ _ _ _,RB.o,af.nil _ _ _,br⟩
   case round=>
    clear RB;obtain⟨k,a,A,c,L,AR,M,cR,hk,rfl,rfl,rfl,HJ,hD,hM,HB⟩:=hrel;obtain⟨w5,rfl⟩:∃z:World,z=wr:=⟨_,rfl⟩;have ga:=HJ.o.le;by_cases hlt2:k <m
    ·have i2:(k:Int) < (m:Int):=by omega
     have c0:=(HB.o.cell (p:=⟨W.heap.size,0,none⟩) hY).trans y6.o;have hL:=h_ (Od X t a b0 AR cR M w5 (xT.o.keep HB.o) ((hD.o.below HB.o).more HB.o.size) y2.o ga);rcases Cc X t a ga with⟨x,a1,he,hx,ha0,ha1⟩|he|he
     ·have hW:=HJ.o.len;have G3:Hid (L.length+1≤maxLen∧(L.length+1)*24≤140737488355328):=by unfold maxLen Hid;omega
      have G4:Hid (0 <3):=by simp [Hid]
      have hC:=h_ he;by_cases hx256:x <256
      ·have g7:=h_ (HJ.o.byte hlt2 he hx256 ha1);have G2:Hid (∀u∈(#[.int .i64 0,.int .i64 0,.int .u8 (x:Int)]:Array Value).toList,u.oneCell'=true):=by simp [Hid,Value.oneCell']
       have i3:(x:Int) <256:=by omega
       have p1:IntKind.u8.wrap (x:Int)=(x:Int):=by rw [IntKind.wrap_u8];omega
       have g8:=h_ (Cp (L:=L) (m:=⟨0,0,x⟩));clear he hW
       go_wp2_with(first
        |(at_builtin;refine dx (size:=3) (bytes:=24) (base:=w2.heap.size) (news:= #[.int .i64 0,.int .i64 0,.int .u8 (x:Int)]) rfl rfl Tryz.underlying154 D8 rfl G4.o hH.o rfl h5.o.size rfl rfl rfl G2.o G3.o.1 G3.o.2 ?_;intro A3 c3 w7 gJ gQ ys;have g5:=h_ gJ;have hr:=h_ (gQ.below ler h5.o);clear gJ gQ ys)
        |(go_at_call 127;refine hL.o.mono ?_;rintro e w6 hP;obtain⟨q,k',h4,rfl,hf⟩:=sh hP hC.o;have h5:=h_ (jm h4 HB.o);have hH:=h_ (ks h4 hM.o);obtain⟨j1,j2,h6,h7⟩:=uk hD.o hf ha1;obtain⟨A2,hA⟩:∃z,(if cR=k' then AR else Option.map (fun x=>x.add k') AR)=z:=⟨_,rfl⟩;obtain⟨M2,hd⟩:∃z,M-k'=z:=⟨_,rfl⟩;obtain⟨C2,hu⟩:∃z,cR-k'=z:=⟨_,rfl⟩;rw [hA,hd,hu]at h6;rw [hd]at h7;have hh:=h_ h6;have j3:(k':Int)≤(M:Int):=Int.ofNat_le.2 j1;have j4:(k':Int)≤(cR:Int):=Int.ofNat_le.2 j2;clear hP h6 h7 h4 hf))
       all_goals
        go_roundw
        case rel=>exact⟨k+1,a1,A3,c3,_,_,_,_,by omega,rfl,by rw [List.length_append];rfl,by go_num,g7.o,hh.o,by rw [←g8.o,List.length_append];exact g5.o,hr.o⟩
        case measure=>(simp [intOf];try omega)
      ·have i3:¬(x:Int) <256:=by omega
       have g6:Hid (∀(A:Option Addr) (n c:Nat) (V:World),Below w2.heap.size w2 V→ab w2 w2.heap.size A n c (fun z=>[.int .i64 z]) 1 ((tbL t).drop a1)→Calls Tryz.prog 127 #[.slice (some ⟨b1,0,none⟩) X2.length X2.length,.slice A n c] V (Es X2 t a1 V)):=fun A n c V hb r=>Od X2 t a1 b1 A c n V (xS.o.keep hb) ((r.below hb).more hb.size) xI.o ha1
       rcases Cc X2 t a1 ha1 with⟨y,a2,he2,hy,xb,ha⟩|he2|he2
       ·have hN:=h_ he2;have yG:y <9:=by have:=xG.o;omega
        have hx320:x <320:=by have:=yA.o;omega
        by_cases hfar:8*t.size <a2+y
        ·have hB:=h_ (fun w' hb=>hR.o (HJ.o.far hlt2 he hx256 he2 hfar) w' hb);replace hfar:=h_ hfar;clear he he2 hW
         go_wp2_with(first
          |(go_at_call 127;refine(g6.o _ _ _ w6 h5.o hh.o).mono ?_;rintro e w7 hP;obtain⟨q2,k2,hg,rfl,hw⟩:=sh hP hN.o;have hr:=h_ (jm hg h5.o);have g5:=h_ (ks hg hH.o);obtain⟨yC,gs⟩:=r0m hQ.o hw ha1 hfar.o;clear hP hg)
          |(go_at_call 127;refine hL.o.mono ?_;rintro e w6 hP;obtain⟨q,k',h4,rfl,hf⟩:=sh hP hC.o;have h5:=h_ (jm h4 HB.o);have hH:=h_ (ks h4 hM.o);obtain⟨j1,j2,h6,h7⟩:=uk hD.o hf ha1;obtain⟨A2,hA⟩:∃z,(if cR=k' then AR else Option.map (fun x=>x.add k') AR)=z:=⟨_,rfl⟩;obtain⟨M2,hd⟩:∃z,M-k'=z:=⟨_,rfl⟩;obtain⟨C2,hu⟩:∃z,cR-k'=z:=⟨_,rfl⟩;rw [hA,hd,hu]at h6;rw [hd]at h7;have hh:=h_ h6;have j3:(k':Int)≤(M:Int):=Int.ofNat_le.2 j1;have j4:(k':Int)≤(cR:Int):=Int.ofNat_le.2 j2;have hQ:=h_ h7;have c6:=(h5.o.cell (p:=⟨W.heap.size,1,none⟩) hY).trans g3.o;clear hP h6 h7 h4 hf))
         all_goals exact hB.o _ (hq.o.trans (hr.o.mono hq.o.size))
        ·have g7:=h_ (fun hv hp=>HJ.o.copy hlt2 he hx256 hx320 he2 hfar hv hp);have hT:=yb t a2 y
         have y4:(2:Int)^y≤256:=by
          have h1:(2:Nat)^y≤2^8:=Nat.pow_le_pow_right (by omega) (by omega);have h3:((2^y:Nat):Int)≤((2^8:Nat):Int):=by exact_mod_cast h1
          simpa using h3
         have xR:(0:Int) <2^y:=Int.pow_pos (by decide);have xL:=h_ (g7.o (by omega) (by omega))
         have xD:Hid (∀V,Calls Tryz.prog 128 #[.int .i64 y] V fun e w'=>∃_:Unit,e= .returned (.int .i64 (2^y))∧w'=V):=fun V=>by have:=rf (y:Int) V (by omega) (by omega);rw [Int.toNat_natCast]at this;exact this.mono (by rintro e w' ⟨h1,h2⟩;exact⟨(),h1,h2.symm⟩)
         have g8:=h_ (Cp (L:=L) (m:=⟨(x:Int)-253,2^y+tn t a2 y,0⟩));have G2:Hid (∀u∈(#[.int .i64 ((x:Int)-253),.int .i64 (2^y+tn t a2 y),.int .u8 0]:Array Value).toList,u.oneCell'=true):=by simp [Hid,Value.oneCell']
         have e1:IntKind.i64.wrap ((x:Int)-253)=(x:Int)-253:=by rw [IntKind.wrap_i64];omega
         have e3:IntKind.i64.wrap (2^y)=2^y:=by rw [IntKind.wrap_i64];omega
         have e4:IntKind.i64.wrap (tn t a2 y)=tn t a2 y:=by rw [IntKind.wrap_i64];omega
         have e5:IntKind.i64.wrap (2^y+tn t a2 y)=2^y+tn t a2 y:=by rw [IntKind.wrap_i64];omega
         have y0:(0:Int)≤(y:Int):=by omega
         replace hfar:=h_ hfar;clear he he2 hW g7 y4 xR;obtain⟨yK,_⟩:=hT;generalize hTT:tn t a2 y=T at*;replace hTT:=h_ hTT
         go_wp2_with(first
          |(go_at_call 127;refine(g6.o _ _ _ w6 h5.o hh.o).mono ?_;rintro e w7 hP;obtain⟨q2,k2,hg,rfl,hw⟩:=sh hP hN.o;have hr:=h_ (jm hg h5.o);have g5:=h_ (ks hg hH.o);obtain⟨yC,gs⟩:=r0n hQ.o hw ha1 hfar.o;obtain⟨b1,b2,b3,b4,b5,b6,b7⟩:=w0f gs hh.o.le hw ha x3;obtain⟨A3,C3,y7,y3,gG⟩:=b0u hh.o hw ha y (k0j hQ.o hw gs);replace hw:=h_ hw;replace gG:=h_ gG;clear hP hg hA hd hu)
          |(go_at_call 127;refine hL.o.mono ?_;rintro e w6 hP;obtain⟨q,k',h4,rfl,hf⟩:=sh hP hC.o;have h5:=h_ (jm h4 HB.o);have hH:=h_ (ks h4 hM.o);obtain⟨j1,j2,h6,h7⟩:=uk hD.o hf ha1;obtain⟨A2,hA⟩:∃z,(if cR=k' then AR else Option.map (fun x=>x.add k') AR)=z:=⟨_,rfl⟩;obtain⟨M2,hd⟩:∃z,M-k'=z:=⟨_,rfl⟩;obtain⟨C2,hu⟩:∃z,cR-k'=z:=⟨_,rfl⟩;rw [hA,hd,hu]at h6;rw [hd]at h7;have hh:=h_ h6;have j3:(k':Int)≤(M:Int):=Int.ofNat_le.2 j1;have j4:(k':Int)≤(cR:Int):=Int.ofNat_le.2 j2;have hQ:=h_ h7;have c6:=(h5.o.cell (p:=⟨W.heap.size,1,none⟩) hY).trans g3.o;clear hP h6 h7 h4 hf))
         have xP:Hid (∀V,Below w2.heap.size w2 V→Calls Tryz.prog 129 #[.slice A3 y C3] V fun e w'=>∃_:Unit,e= .returned (.int .u64 T)∧w'=V):=fun V hb=>by have:=k0g A3 y C3 _ w2.heap.size V (gG.o.below hb) (fun z hz=>G7 t z (List.mem_of_mem_drop (List.mem_of_mem_take hz))) (by omega);rw [Us t a2 y (by have:=hfar.o;omega),hTT.o]at this;exact this.mono (by rintro e w' ⟨h1,h2⟩;exact⟨(),h1,h2.symm⟩)
         obtain⟨j5,j6,gC,-⟩:=uk hh.o (a1:=a2+y) (k:=k2+y) (by have:=hw.o;omega) (by have:=hfar.o;omega);obtain⟨A4,xJ⟩:∃z,(if C2=k2+y then A2 else Option.map (fun x=>x.add (k2+y)) A2)=z:=⟨_,rfl⟩;obtain⟨M4,xY⟩:∃z,M2- (k2+y)=z:=⟨_,rfl⟩;obtain⟨C4,xC⟩:∃z,C2- (k2+y)=z:=⟨_,rfl⟩;rw [xJ,xY,xC]at gC;have y5:=h_ gC;have p9:IntKind.i64.wrap ((k2:Int)+(y:Int))=(k2:Int)+(y:Int):=by rw [IntKind.wrap_i64];omega
         have yN:((k2:Int)+(y:Int)).toNat=k2+y:=by omega
         have yF:(0:Int)≤(k2:Int)+(y:Int):=by omega
         have yP:k2≤k2+y:=by omega
         have xM:k2+y-k2=y:=by omega
         have yB:=h_ (hr.o.drew);have xQ:Hid (af (w7.alloc (.cells #[.int .i64 ((x:Int)-253),.int .i64 (2^y+T),.int .u8 0] 194)).drew w2.heap.size 3 (.slice A L.length c) L.length (L.flatMap bc.cells)):=(g5.o.alloc _).drew;have xX:Hid (w2.heap.size≤(w7.alloc (.cells #[.int .i64 ((x:Int)-253),.int .i64 (2^y+T),.int .u8 0] 194)).drew.heap.size):=Oa hr.o ler;have yE:Hid ((w7.alloc (.cells #[.int .i64 ((x:Int)-253),.int .i64 (2^y+T),.int .u8 0] 194)).drew.heap[w7.heap.size]?=some (.cells #[.int .i64 ((x:Int)-253),.int .i64 (2^y+T),.int .u8 0] 194)):=A_ w7 _;have xU:Hid (Below w2.heap.size w2 (w7.alloc (.cells #[.int .i64 ((x:Int)-253),.int .i64 (2^y+T),.int .u8 0] 194)).drew):=(hr.o.alloc hr.o.size _).drew;clear gC
         go_region_law(first
          |(refine oh (P:=Tryz.prog) (e:=194) (z:=.agg #[.int .i64 0,.int .i64 0,.int .u8 0]) (size:=3) (bytes:=24) (base:=w2.heap.size) rfl (.tmp 102) (.tmp 117) 154 rfl Tryz.underlying154 D8 rfl G4.o A L.length c (L.flatMap bc.cells) (by simp [go_sem]) xQ.o xX.o w7.heap.size 1 #[.int .i64 ((x:Int)-253),.int .i64 (2^y+T),.int .u8 0] 194 (by simp [go_sem]) yE.o rfl G2.o G3.o.1 G3.o.2 ?_;intro A5 c5 yM x7 x4 yD;have xV:=h_ x7;have y1:=h_ (x4.below ler xU.o);clear x7 x4 yD)
          |(refine eh rfl 128 rfl #[.int .i64 y] (fun _:Unit=>.int .i64 (2^y)) (by simp [go_sem]) (xD.o w7.drew) ?_;rintro⟨⟩ w8 rfl)
          |(refine eh rfl 129 rfl #[.slice A3 y C3] (fun _:Unit=>.int .u64 T) (by simp [go_sem]) (xP.o w7.drew yB.o) ?_;rintro⟨⟩ w8 rfl))
         all_goals
          clear y7 y3 xM;go_wp2_with fail;go_roundw
          case rel=>exact⟨k+1,a2+y,A5,c5,_,_,_,_,by omega,rfl,by rw [List.length_append];rfl,by go_num,xL.o,y5.o,by rw [←g8.o,List.length_append];exact xV.o,y1.o⟩
          case measure=>(simp [intOf];try omega)
       ·have hB:=h_ (fun w' hb=>hR.o (HJ.o.bad2 hlt2 he hx256 he2 (by decide)) w' hb);have HZ:Hid ((7:Int)≠0):=by simp only [Hid];decide
        have hN:=h_ he2;clear he he2 hW
        go_wp2_with(first
         |(go_at_call 127;refine(g6.o _ _ _ w6 h5.o hh.o).mono ?_;rintro e w7 hP;obtain⟨q2,hg,rfl⟩:=Bp hP hN.o HZ.o;have hr:=h_ (hq.o.trans ((jm hg h5.o).mono hq.o.size));clear hP hg)
         |(go_at_call 127;refine hL.o.mono ?_;rintro e w6 hP;obtain⟨q,k',h4,rfl,hf⟩:=sh hP hC.o;have h5:=h_ (jm h4 HB.o);have hH:=h_ (ks h4 hM.o);obtain⟨j1,j2,h6,h7⟩:=uk hD.o hf ha1;obtain⟨A2,hA⟩:∃z,(if cR=k' then AR else Option.map (fun x=>x.add k') AR)=z:=⟨_,rfl⟩;obtain⟨M2,hd⟩:∃z,M-k'=z:=⟨_,rfl⟩;obtain⟨C2,hu⟩:∃z,cR-k'=z:=⟨_,rfl⟩;rw [hA,hd,hu]at h6;rw [hd]at h7;have hh:=h_ h6;have j3:(k':Int)≤(M:Int):=Int.ofNat_le.2 j1;have j4:(k':Int)≤(cR:Int):=Int.ofNat_le.2 j2;have hQ:=h_ h7;have c6:=(h5.o.cell (p:=⟨W.heap.size,1,none⟩) hY).trans g3.o;clear hP h6 h7 h4 hf))
        all_goals
         exact hB.o _ hr.o
       ·have hB:=h_ (fun w' hb=>hR.o (HJ.o.bad2 hlt2 he hx256 he2 (by decide)) w' hb);have HZ:Hid ((3:Int)≠0):=by simp only [Hid];decide
        have hN:=h_ he2;clear he he2 hW
        go_wp2_with(first
         |(go_at_call 127;refine(g6.o _ _ _ w6 h5.o hh.o).mono ?_;rintro e w7 hP;obtain⟨q2,hg,rfl⟩:=Bp hP hN.o HZ.o;have hr:=h_ (hq.o.trans ((jm hg h5.o).mono hq.o.size));clear hP hg)
         |(go_at_call 127;refine hL.o.mono ?_;rintro e w6 hP;obtain⟨q,k',h4,rfl,hf⟩:=sh hP hC.o;have h5:=h_ (jm h4 HB.o);have hH:=h_ (ks h4 hM.o);obtain⟨j1,j2,h6,h7⟩:=uk hD.o hf ha1;obtain⟨A2,hA⟩:∃z,(if cR=k' then AR else Option.map (fun x=>x.add k') AR)=z:=⟨_,rfl⟩;obtain⟨M2,hd⟩:∃z,M-k'=z:=⟨_,rfl⟩;obtain⟨C2,hu⟩:∃z,cR-k'=z:=⟨_,rfl⟩;rw [hA,hd,hu]at h6;rw [hd]at h7;have hh:=h_ h6;have j3:(k':Int)≤(M:Int):=Int.ofNat_le.2 j1;have j4:(k':Int)≤(cR:Int):=Int.ofNat_le.2 j2;have hQ:=h_ h7;have c6:=(h5.o.cell (p:=⟨W.heap.size,1,none⟩) hY).trans g3.o;clear hP h6 h7 h4 hf))
        all_goals
         exact hB.o _ hr.o
     ·have hB:=h_ (fun w' hb=>hR.o (HJ.o.bad hlt2 he (by decide)) w' hb);have HZ:Hid ((7:Int)≠0):=by simp only [Hid];decide
      have hC:=h_ he;clear he;go_wp2_with(go_at_call 127;refine hL.o.mono ?_;rintro e w6 hP;obtain⟨q,h4,rfl⟩:=Bp hP hC.o HZ.o;have h5:=h_ (hq.o.trans ((jm h4 HB.o).mono hq.o.size));clear hP h4)
      all_goals
       exact hB.o _ h5.o
     ·have hB:=h_ (fun w' hb=>hR.o (HJ.o.bad hlt2 he (by decide)) w' hb);have HZ:Hid ((3:Int)≠0):=by simp only [Hid];decide
      have hC:=h_ he;clear he;go_wp2_with(go_at_call 127;refine hL.o.mono ?_;rintro e w6 hP;obtain⟨q,h4,rfl⟩:=Bp hP hC.o HZ.o;have h5:=h_ (hq.o.trans ((jm h4 HB.o).mono hq.o.size));clear hP h4)
      all_goals
       exact hB.o _ h5.o
    ·obtain rfl:k=m:=by omega
     have i2:¬(k:Int) < (k:Int):=by omega
     have gD:mkR X X2 t k 0 []=some (L,a):=by rw [HJ.o.eq,Nat.sub_self];rfl
     have gH:=hD.o.len;rw [List.length_drop,px]at gH;have gP:=h_ (hq.o.trans (HB.o.mono hq.o.size));have gg:=h_ (r0d ga);have xZ:=h_ (hM.o.rows (enc:=bc.cells) (k:=3) (fun _=>rfl) (by decide));have HY:=h_ (fun(ok:Bool) q=>gT.o L a A c ok w5 gD HJ.o.len q xZ.o gP.o HJ.o.ok);have HN:=h_ (fun q=>gY.o L a w5 gD q gP.o);have g2:=h_ gH;have xN:=h_ ((hD.o.below HB.o).more HB.o.size);have yL:M≤8388600:=by omega
     clear gT gY hR gD gH;go_wp2;go_loop [21,127] (fun _ v127=>∃j:Nat,j≤M∧v127= .int .i64 j∧Hid (∀i,i <j→((tbL t).drop a)[i]?=some 0)) (fun _ v127=>M- (intOf v127).toNat)
     case atStart=>exact⟨0,zl,rfl,fun i h=>by omega⟩
     case round=>
      obtain⟨j,hj,rfl,HZ⟩:=hrel;by_cases hjM:j <M
      ·have j1:(j:Int) < (M:Int):=by omega
       have g4:j < ((tbL t).drop a).length:=by rw [List.length_drop,px];have:=g2.o;omega
       have e1:=gE g4;have xB:=G7 t _ (List.mem_of_mem_drop (List.getElem_mem g4));obtain⟨b,o,rfl,yI,hc⟩:=xN.o.one e1;rcases(show((tbL t).drop a)[j]=0∨((tbL t).drop a)[j]=1 by omega)with h0|h0
       ·rw [h0]at e1 hc
        have xW:Hid (∀i,i <j+1→((tbL t).drop a)[i]?=some 0):=fun i h=>by
         by_cases e:i=j
         ·subst e;exact e1
         ·exact HZ.o i (by omega)
        clear e1 h0 xB g4;go_wp2;go_round
        case rel=>exact⟨j+1,by omega,by go_num,xW.o⟩
        case measure=>(simp [intOf];try omega)
       ·rw [h0]at e1 hc;have HP:=h_ (HN.o (fun q=>absurd ((gg.o.1 q).2 1 (List.mem_of_getElem? e1)) (by decide)));clear e1 h0 xB g4;go_wp2;exact HP.o
      ·obtain rfl:j=M:=by omega
       have j1:¬(j:Int) < (j:Int):=by omega
       have gB:∀x∈(tbL t).drop a,x=0:=fun x hx=>by obtain⟨i,hi⟩:=List.mem_iff_getElem?.1 hx;have xH:=(gS.1 hi).1;rw [List.length_drop,px]at xH;have:=HZ.o i (by have:=g2.o;omega);rw [hi]at this;injection this
       by_cases h8:j <8
       ·have HP:=h_ (HY.o true (.inr ⟨rfl,gg.o.2 ⟨by have:=g2.o;omega,gB⟩⟩));have d1:=dT (show(j:Int) <8 by omega);clear gB h8;go_wp2;exact HP.o
       ·have HP:=h_ (HY.o false (.inl ⟨rfl,fun q=>by have:=(gg.o.1 q).1;have:=g2.o;omega⟩));have d1:=dF (show ¬(j:Int) <8 by omega);clear gB h8;go_wp2;exact HP.o
end Go.Proofs.YtcldpfhpkbeaiadGreat
