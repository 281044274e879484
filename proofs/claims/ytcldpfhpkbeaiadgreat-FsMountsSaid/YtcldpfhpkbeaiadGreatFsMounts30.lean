/- A part of the proof of FsMounts. No condition of ours. -/
import Derived.Test.YtcldpfhpkbeaiadGreatFsMounts29
set_option maxRecDepth 100000
set_option maxHeartbeats 4000000
namespace Go.Proofs.YtcldpfhpkbeaiadGreat
open Go.RowKit Go.PlainAid
theorem Cu{ok:Prop}{cs:List ByteArray}{ws:List ae}{p:aa}{w:World}{f:FuncId}{args:Array Value}(h:Calls Tryz.prog f args w (As ok cs ws p w))(hok:ok):Calls Tryz.prog f args w fun e w'=>∃G D q d,e= .returned (.tuple #[.agg #[.int .i64 (ndK cs ws p),.int .i64 G,.int .i64 (ndS cs ws p),.slice D q d],.int .i64 0])∧Below w.heap.size w w'∧(∀a,D=some a→w.heap.size≤a.block)∧ab w' w'.heap.size D q d aa.cells 2 (pts cs ws p):=
 h.mono fun _ _ ⟨⟨K,G,S,D,q,d,E⟩,e1,b1,b2,b3⟩=>by
  rcases b3 with⟨_,h1,h2,h3,h4⟩|h
  ·simp only at e1 b2 h1 h2 h3 h4;subst h1;subst h2;subst h3;exact⟨G,D,q,d,e1,b1,b2,h4⟩
  ·exact absurd hok h.1
theorem Tf{ok:Prop}{cs:List ByteArray}{ws:List ae}{p:aa}{w:World}{f:FuncId}{args:Array Value}(h:Calls Tryz.prog f args w (As ok cs ws p w))(hok:¬ok):Calls Tryz.prog f args w fun e w'=>∃G,e= .returned (.tuple #[.agg #[.int .i64 0,.int .i64 G,.int .i64 0,.slice none 0 0],.int .i64 18])∧Below w.heap.size w w':=
 h.mono fun _ _ ⟨⟨K,G,S,D,q,d,E⟩,e1,b1,_,b3⟩=>by
  rcases b3 with h|⟨_,h1,h2,h3,h4,h5,h6⟩
  ·exact absurd h.1 hok
  ·simp only at e1 h1 h2 h3 h4 h5 h6;subst h1;subst h2;subst h3;subst h4;subst h5;subst h6;exact⟨G,e1,b1⟩
theorem s0c{ok:Prop}{L:List ay}{w:World}{f:FuncId}{args:Array Value}(h:Calls Tryz.prog f args w (qx ok L w))(hok:ok):Calls Tryz.prog f args w fun e w'=>∃A m c,e= .returned (.tuple #[.slice A m c,.int .i64 0])∧Below w.heap.size w w'∧ab w' w'.heap.size A m c ay.cells 2 L:=
 h.mono fun _ _ ⟨⟨A,m,c,E⟩,e1,h1,h2,h3⟩=>by have h4:E=0:=h1.1 hok;subst h4;exact⟨A,m,c,e1,h2,(h3 hok).1⟩
theorem s0d{ok:Prop}{L:List ay}{w:World}{f:FuncId}{args:Array Value}(h:Calls Tryz.prog f args w (qx ok L w))(hok:¬ok):Calls Tryz.prog f args w fun e w'=>∃A m c E,e= .returned (.tuple #[.slice A m c,.int .i64 E])∧(E !=0)=true∧Below w.heap.size w w':=
 h.mono fun _ _ ⟨⟨A,m,c,E⟩,e1,h1,h2,_⟩=>⟨A,m,c,E,e1,bN (fun e=>hok (h1.2 e)),h2⟩
theorem Mh{B:WhB}{tf tv ts:TypeId}{cs:List ByteArray}{xs:List aa}{gs fr:List Int}{os:List OpD}{v:FsV}{w0 w:World}{f:FuncId}{args:Array Value}{r:Option (List Nat×List be)}(h:Calls Tryz.prog f args w (pg B tf tv ts cs xs gs fr os v w0 w r))(hr:r=none):Calls Tryz.prog f args w fun e w'=>e= .returned (.bool false)∧Below B.lo w0 w':=
 h.mono fun _ _ h=>by
  rcases h with⟨_,h⟩|⟨s,l,h,_⟩
  ·exact h
  ·rw [hr]at h;cases h
theorem Mg{B:WhB}{tf tv ts:TypeId}{cs:List ByteArray}{xs:List aa}{gs fr:List Int}{os:List OpD}{v:FsV}{w0 w:World}{f:FuncId}{args:Array Value}{r:Option (List Nat×List be)}{s:List Nat}{l:List be}(h:Calls Tryz.prog f args w (pg B tf tv ts cs xs gs fr os v w0 w r))(hr:r=some (s,l)):Calls Tryz.prog f args w fun e w'=>e= .returned (.bool true)∧WhS B tf tv ts cs xs gs fr os v w0 s w'∧Frm B.sb w w':=
 h.mono fun _ _ h=>by
  rcases h with⟨h,_⟩|⟨s',l',h,h2⟩
  ·rw [hr]at h;cases h
  ·rw [hr]at h;injection h with h;injection h with h1 h3;subst h1;exact h2
theorem Fm{sb:Nat}{W w2:World}(h:sb <W.heap.size)(hb:Below W.heap.size W w2):w2.heap.size≠sb:=by have:=hb.size;omega
theorem Fj{sb n q d:Nat}{D:Option Addr}{L:List aa}{W w2:World}(h:sb <W.heap.size)(hf:∀a,D=some a→W.heap.size≤a.block)(hr:ab w2 w2.heap.size D q d aa.cells 2 L)(o:Obj):ab ((w2.alloc o).setCell ⟨sb,n,none⟩ (.int .i64 1)) ((w2.alloc o).setCell ⟨sb,n,none⟩ (.int .i64 1)).heap.size D q d aa.cells 2 L:=
 (((hr.alloc ler o).more (by simp)).far_set (B:=(w2.alloc o).heap.size) (fun a ha _ e=>by have:=hf a ha;omega) n _).more (by simp [World.setCell])
theorem Zv(B:WhB)(tf tv ts:TypeId)(cs:List ByteArray)(xs:List aa)(gs fr:List Int)(os:List OpD)(v:FsV)(w0:World)(hd:au cs []=0)(hx:xs.length=48)(hg:gs.length=48)(f:Nat):∀(ha:Nat),ha+f=9→∀(seen:List Nat) (n:Nat) (path:List UInt8) (W:World),n <48→WhS B tf tv ts cs xs gs fr os v w0 seen W→
 Calls Tryz.prog 28 #[.int .i64 n,.int .i64 ha,.pointer (some ⟨B.fb,0,none⟩),.pointer (some ⟨B.sb,0,none⟩),.pointer (some ⟨B.vb,0,none⟩)] W (pg B tf tv ts cs xs gs fr os v w0 W (vis cs [] xs gs f seen n path)):=by
 induction f with
 |zero=>
  intro ha gN seen n path W hn hS
  obtain⟨⟨pc,pn⟩,hp⟩:∃p,xs[n]?=some p:=⟨_,gE (by omega)⟩
  obtain⟨g,h4⟩:∃g,gs[n]?=some g:=⟨_,gE (by omega)⟩
  have c0:=rc0 hS.fbox
  have HS:=h_ hS
  have gw:(n:Int) <48:=by omega
  have h7:Hid (∀W',WhS B tf tv ts cs xs gs fr os v w0 seen W'→W'.cell? ⟨B.sb,n,none⟩=some (.int .i64 (if n∈seen then 1 else 0))∧W'.frozen? ⟨B.sb,n,none⟩=false):=h_ fun W' h=>⟨by rw [aj h.sbox];exact un hn,ak h.sbox n⟩
  have h8:Hid (∀w',Below B.lo w0 w'→pg B tf tv ts cs xs gs fr os v w0 W (vis cs [] xs gs 0 seen n path) (.returned (.bool false)) w'):=h_ fun w' h=>.inl ⟨uc,rfl,h⟩
  generalize pg B tf tv ts cs xs gs fr os v w0 W (vis cs [] xs gs 0 seen n path)=PP at*
  by_cases hok:pc≠0∧fw cs [] n ⟨pc,pn⟩ g
  ·have HL:=h_ (Cu (vt B.b cs [] xs gs fr os v n pc pn g W hS.fs hd hp h4) hok)
   generalize ndK cs [] ⟨pc,pn⟩=K at*
   generalize ndS cs [] ⟨pc,pn⟩=Sz at*
   have gg:(8:Int) < (ha:Int):=by omega
   by_cases hse:n∈seen
   ·rw [if_pos hse]at h7
    clear hd hx hg hp h4 hok
    go_enter Tryz.func28,Tryz.ntmps28
    go_wp2_with(go_at_call 29;refine HL.o.mono ?_;rintro e w2 ⟨G,D,q,d,rfl,h0,h6,h9⟩;have S3:=h_ ((HS.o.go h0).alloc (.cells #[.int .i64 K,.int .i64 G,.int .i64 Sz,.slice D q d] 67));obtain⟨s0,s1⟩:=h7.o _ S3.o;clear h0 h6 h9)
    have HZ:=h8.o _ S3.o.below
    first|exact HZ|(go_ret;exact HZ)|(go_ret2;exact HZ)
   ·rw [if_neg hse]at h7
    clear hd hx hg hp h4 hok
    go_enter Tryz.func28,Tryz.ntmps28
    go_wp2_with(go_at_call 29;refine HL.o.mono ?_;rintro e w2 ⟨G,D,q,d,rfl,h0,h6,h9⟩;have S3:=h_ ((HS.o.go h0).alloc (.cells #[.int .i64 K,.int .i64 G,.int .i64 Sz,.slice D q d] 67));obtain⟨s0,s1⟩:=h7.o _ S3.o;clear h0 h6 h9)
    have HZ:=h8.o _ S3.o.below
    first|exact HZ|(go_ret;exact HZ)|(go_ret2;exact HZ)
  ·have HL:=h_ (Tf (vt B.b cs [] xs gs fr os v n pc pn g W hS.fs hd hp h4) hok)
   clear hd hx hg hp h4 hok h7
   go_enter Tryz.func28,Tryz.ntmps28
   go_wp2_with(go_at_call 29;refine HL.o.mono ?_;rintro e w2 ⟨G,rfl,h0⟩;have S2:=h_ (HS.o.go h0);clear h0)
   have HZ:=h8.o _ (S2.o.alloc (.cells #[.int .i64 0,.int .i64 G,.int .i64 0,.slice none 0 0] 67)).below
   first|exact HZ|(go_ret;exact HZ)|(go_ret2;exact HZ)
 |succ f ih=>
  intro ha gN seen n path W hn hS
  obtain⟨⟨pc,pn⟩,hp⟩:∃p,xs[n]?=some p:=⟨_,gE (by omega)⟩
  obtain⟨g,h4⟩:∃g,gs[n]?=some g:=⟨_,gE (by omega)⟩
  have c0:=rc0 hS.fbox
  have HS:=h_ hS
  have gw:(n:Int) <48:=by omega
  have h7:Hid (∀W',WhS B tf tv ts cs xs gs fr os v w0 seen W'→W'.cell? ⟨B.sb,n,none⟩=some (.int .i64 (if n∈seen then 1 else 0))∧W'.frozen? ⟨B.sb,n,none⟩=false):=h_ fun W' h=>⟨by rw [aj h.sbox];exact un hn,ak h.sbox n⟩
  have h8:Hid (vis cs [] xs gs (f+1) seen n path=none→∀w',Below B.lo w0 w'→pg B tf tv ts cs xs gs fr os v w0 W (vis cs [] xs gs (f+1) seen n path) (.returned (.bool false)) w'):=h_ fun hr w' h=>.inl ⟨hr,rfl,h⟩
  have hz:Hid (∀s l,vis cs [] xs gs (f+1) seen n path=some (s,l)→∀w',WhS B tf tv ts cs xs gs fr os v w0 s w'→Frm B.sb W w'→pg B tf tv ts cs xs gs fr os v w0 W (vis cs [] xs gs (f+1) seen n path) (.returned (.bool true)) w'):=h_ fun s l hr w' h h2=>.inr ⟨s,l,hr,rfl,h,h2⟩
  generalize hPP:pg B tf tv ts cs xs gs fr os v w0 W (vis cs [] xs gs (f+1) seen n path)=PP at h8 hz⊢
  clear hPP
  by_cases hok:pc≠0∧fw cs [] n ⟨pc,pn⟩ g
  ·have HL:=h_ (Cu (vt B.b cs [] xs gs fr os v n pc pn g W hS.fs hd hp h4) hok)
   have gg:¬(8:Int) < (ha:Int):=by omega
   by_cases hse:n∈seen
   ·rw [if_pos hse]at h7
    have HR:=h_ (h8.o (Fp hse))
    generalize ndK cs [] ⟨pc,pn⟩=K at*
    generalize ndS cs [] ⟨pc,pn⟩=Sz at*
    clear hd hx hg hp h4 hok ih h8
    go_enter Tryz.func28,Tryz.ntmps28
    go_wp2_with(go_at_call 29;refine HL.o.mono ?_;rintro e w2 ⟨G,D,q,d,rfl,h0,h6,h9⟩;have S3:=h_ ((HS.o.go h0).alloc (.cells #[.int .i64 K,.int .i64 G,.int .i64 Sz,.slice D q d] 67));obtain⟨s0,s1⟩:=h7.o _ S3.o;clear h0 h6 h9)
    have HZ:=HR.o _ S3.o.below
    first|exact HZ|(go_ret;exact HZ)|(go_ret2;exact HZ)
   ·rw [if_neg hse]at h7
    have hm:=Da hok.2
    obtain⟨k,hk⟩:∃k:Nat,ndS cs [] ⟨pc,pn⟩=k:=⟨(ndS cs [] ⟨pc,pn⟩).toNat,by omega⟩
    have hB:k≤4096:=by have:=hm.2.2.1;omega
    have hj:(pts cs [] ⟨pc,pn⟩).length=npt k:=by have:=hm.2.2.2.1;rw [hk,Int.toNat_natCast]at this;exact this
    have hT:ndT cs [] ⟨pc,pn⟩=mkS (whB k 0 ((pts cs [] ⟨pc,pn⟩).map (dtT cs []))):=by unfold ndT ndB;rw [hk,Int.toNat_natCast]
    have hy:i8 cs [] n k (pts cs [] ⟨pc,pn⟩)→fy k ((pts cs [] ⟨pc,pn⟩).map (dtT cs []))=0:=fun h=>by have:=(Kh hok.2 (by rw [hk];exact h)).2;rw [hk]at this;exact this
    have hh:Hid (kc cs [] n ⟨pc,pn⟩ g↔i8 cs [] n k (pts cs [] ⟨pc,pn⟩)):=h_ ⟨fun h=>by have:=h.2.2;rw [hk]at this;exact this,fun h=>⟨hok.1,hok.2,by rw [hk];exact h⟩⟩
    have hq:Hid (B.sb <W.heap.size):=h_ (ag HS.o.sbox)
    rw [hk]at HL
    by_cases hK:ndK cs [] ⟨pc,pn⟩=1
    ·rw [hK]at HL
     obtain⟨good,hI⟩:∃good,good=i8 cs [] n k (pts cs [] ⟨pc,pn⟩):=⟨_,rfl⟩
     obtain⟨ps,hc⟩:∃ps,ps=pts cs [] ⟨pc,pn⟩:=⟨_,rfl⟩
     have hQ:Hid (∀W' G D q d,FsT B.b cs [] xs gs fr os v W'→ab W' W'.heap.size D q d aa.cells 2 ps→Calls Tryz.prog 20 #[.pointer (some ⟨B.b,0,none⟩),.int .i64 n,.agg #[.int .i64 1,.int .i64 G,.int .i64 k,.slice D q d]] W' fun e w'=>∃z:Int×Option Addr×Nat×Nat×Int,e= .returned (.tuple #[.agg #[.int .i64 z.1,.slice z.2.1 z.2.2.1 z.2.2.2.1],.int .i64 z.2.2.2.2])∧((good↔z.2.2.2.2=0)∧DtQ good k (ps.map (dtT cs [])) W' w' z.1 z.2.1 z.2.2.1 z.2.2.2.1)):=h_ fun W' G D q d h1 h2=>by rw [hI];rw [hc]at h2⊢;exact Kj B.b cs [] xs gs fr os v n 1 G k D q d _ W' h1 hd h2 (by omega) (by omega) (by rw [hj];simp)
     have gb:Hid (good→∀w',WhS B tf tv ts cs xs gs fr os v w0 (n::seen) w'→Frm B.sb W w'→PP (.returned (.bool true)) w'):=h_ fun h=>hz.o _ _ (Fr hp h4 hse (hh.o.2 (by rw [←hI];exact h)) hK)
     have gD:Hid (¬good→∀w',Below B.lo w0 w'→PP (.returned (.bool false)) w'):=h_ fun h=>h8.o (sf hp h4 (fun h2=>h (by rw [hI];exact hh.o.1 h2)))
     rw [←hc]at HL
     clear hd hx hg hp h4 hok ih h8 hz hm hk hB hj hT hy hh hK hI hc hse
     go_enter Tryz.func28,Tryz.ntmps28
     go_wp2_with(go_at_call 29;refine HL.o.mono ?_;rintro e w2 ⟨G,D,q,d,rfl,h0,h6,h9⟩;have S3:=h_ ((HS.o.go h0).alloc (.cells #[.int .i64 1,.int .i64 G,.int .i64 k,.slice D q d] 67));obtain⟨s0,s1⟩:=h7.o _ S3.o;have S4:=h_ (S3.o.mark n);have F4:Hid (Frm B.sb W ((w2.alloc (.cells #[.int .i64 1,.int .i64 G,.int .i64 k,.slice D q d] 67)).setCell ⟨B.sb,n,none⟩ (.int .i64 1))):=h_ (((Frm.of_below h0).trans (Frm.of_below (br.alloc ler _))).cell n _);have h5:=h_ (cp (a:=⟨B.sb,n,none⟩) (v:=.int .i64 1) (A_ w2 (.cells #[.int .i64 1,.int .i64 G,.int .i64 k,.slice D q d] 67)) (Fm hq.o h0));have hf:=h_ (Fj (n:=n) hq.o h6 h9 (.cells #[.int .i64 1,.int .i64 G,.int .i64 k,.slice D q d] 67));have k0:=aj h5.o 0;have k1:=aj h5.o 1;have k2:=aj h5.o 2;have k3:=aj h5.o 3;have k4:=aj S4.o.fbox 0;simp only [sA,sB,sC]at k0 k1 k2 k3 k4;clear h0 h6 h9)
     obtain⟨w4,g5⟩:∃w4,w4=(w2.alloc (.cells #[.int .i64 1,.int .i64 G,.int .i64 k,.slice D q d] 67)).setCell ⟨B.sb,n,none⟩ (.int .i64 1):=⟨_,rfl⟩
     rw [←g5]at S4 F4 h5 hf k0 k1 k2 k3 k4⊢
     clear g5 s0 s1
     have gS:Hid (Below w4.heap.size w4 (w4.alloc (.cells cz 69)).drew):=(br.alloc ler _).drew
     have gC:Hid (w4.heap.size < (w4.alloc (.cells cz 69)).drew.heap.size):=by simp only [Hid];show w4.heap.size < (w4.alloc (.cells cz 69)).heap.size;simp
     have y:=cq h5.o (.cells cz 69)
     have y0:=rc0 y
     have y1:=rc1 y
     have y2:=rc2 y
     have y3:=rc3 y
     have y4:=rc0 (cq S4.o.fbox (.cells cz 69))
     have hW:=h_ (hQ.o w4.drew G D q d S4.o.fs.drew hf.o.drew)
     have g7:=h_ (hQ.o (w4.alloc (.cells cz 69)).drew G D q d (S4.o.fs.alloc _).drew ((hf.o.alloc ler _).more (by simp)).drew)
     clear y hQ
     go_cut [11] (fun s11 wx=>∃E,s11= .int .i64 E∧Hid (good↔E=0)∧Hid (WhS B tf tv ts cs xs gs fr os v w0 (n::seen) wx)∧Hid (Frm B.sb W wx))
     case first=>
      go_region_law(first
       |(refine eh rfl 20 rfl #[.pointer (some ⟨B.b,0,none⟩),.int .i64 n,.agg #[.int .i64 1,.int .i64 G,.int .i64 k,.slice D q d]] DtZ (by simp [go_sem]) hW.o ?_;rintro⟨S,A,m,c,E⟩ w5 ⟨he,h0⟩;have hD:=A_ w5 (.cells cz 69);have u0:=rc0 hD;have u1:=rc1 hD;have u4:=ak hD 0;have u5:=ak hD 1;simp only [DtZ])
       |(refine eh rfl 20 rfl #[.pointer (some ⟨B.b,0,none⟩),.int .i64 n,.agg #[.int .i64 1,.int .i64 G,.int .i64 k,.slice D q d]] DtZ (by simp [go_sem]) g7.o ?_;rintro⟨S,A,m,c,E⟩ w5 ⟨he,h0⟩;have hM:=ah (w:=(w4.alloc (.cells cz 69)).drew) (A_ w4 _) gC.o h0.1;have u0:=rc0 hM;have u1:=rc1 hM;have u4:=ak hM 0;have u5:=ak hM 1;simp only [DtZ]))
      all_goals
       go_wp2_with fail
       go_meet
       case rel=>first|exact⟨E,rfl,he,S4.o.go (A7 (t:=69) hM h0).below,F4.o.trans (Frm.of_below (A7 (t:=69) hM h0).below)⟩|exact⟨E,rfl,he,S4.o.go (A9 (t:=69) h0).below,F4.o.trans (Frm.of_below (A9 (t:=69) h0).below)⟩
     case rest=>
      rename World=>wx
      obtain⟨E,rfl,HE,HW,HF⟩:=hcut
      clear y0 y1 y2 y3 y4 k0 k1 k2 k3 k4 hW g7
      by_cases hE:E=0
      ·subst hE
       go_wp2
       have HZ:=gb.o (HE.o.2 trivial) _ HW.o HF.o
       first|exact HZ|(go_ret;exact HZ)|(go_ret2;exact HZ)
      ·have g1:(E==0)=false:=bF hE
       go_wp2
       have HZ:=gD.o (fun h=>hE (HE.o.1 h)) _ HW.o.below
       first|exact HZ|(go_ret;exact HZ)|(go_ret2;exact HZ)
    ·have hU:ndK cs [] ⟨pc,pn⟩=2:=hm.1.resolve_left hK
     obtain⟨T,hu⟩:∃T,T=mkS (whB k 0 ((pts cs [] ⟨pc,pn⟩).map (dtT cs []))):=⟨_,rfl⟩
     obtain⟨ps,hc⟩:∃ps,ps=pts cs [] ⟨pc,pn⟩:=⟨_,rfl⟩
     rw [hU,←hc]at HL
     rw [←hu]at hT
     by_cases hen:i8 cs [] n k (pts cs [] ⟨pc,pn⟩)∧rdE T=0
     ·obtain⟨L,hL⟩:∃L,L=rdR T:=⟨_,rfl⟩
      have hG:Hid (∀W' G D q d,FsT B.b cs [] xs gs fr os v W'→ab W' W'.heap.size D q d aa.cells 2 ps→Calls Tryz.prog 30 #[.pointer (some ⟨B.b,0,none⟩),.int .i64 n,.agg #[.int .i64 2,.int .i64 G,.int .i64 k,.slice D q d]] W' fun e w'=>∃A m c,e= .returned (.tuple #[.slice A m c,.int .i64 0])∧Below W'.heap.size W' w'∧ab w' w'.heap.size A m c ay.cells 2 L):=h_ fun W' G D q d h1 h2=>by rw [hc]at h2;have h3:=K2 B.b cs [] xs gs fr os v n 2 G k D q d _ W' h1 hd h2 hB hj hy;rw [←hu,←hL]at h3;exact s0c h3 ⟨rfl,hen.1,hen.2⟩
      have hX:∀x∈L,0≤x.Ino∧x.Ino≤47:=fun x hx=>by rw [hL]at hx;exact((Bx (s:=T)).2 x hx).2
      have hV:=Fs (path:=path) hp h4 hse (hh.o.2 hen.1) hK (f:=f) (cs:=cs) (ws:=[]) (by rw [hT];exact hen.2)
      rw [hT,←hL]at hV
      obtain⟨it,hZ⟩:∃it:be,it=⟨path,ndK cs [] ⟨pc,pn⟩,⟨#[]⟩⟩:=⟨_,rfl⟩
      rw [←hZ]at hV
      have gG:Hid (∀(s:List Nat) (m:Nat) (path':List UInt8) W',m <48→WhS B tf tv ts cs xs gs fr os v w0 s W'→Calls Tryz.prog 28 #[.int .i64 m,.int .i64 ((ha:Int)+1),.pointer (some ⟨B.fb,0,none⟩),.pointer (some ⟨B.sb,0,none⟩),.pointer (some ⟨B.vb,0,none⟩)] W' (pg B tf tv ts cs xs gs fr os v w0 W' (vis cs [] xs gs f s m path'))):=h_ fun s m path' W' h1 h2=>ih (ha+1) (by omega) s m path' W' h1 h2
      have HV:=h_ hV
      have gF:=h_ hX
      have gU:wrap64 ((ha:Int)+1)=(ha:Int)+1:=by unfold wrap64;omega
      clear hd hx hg hp h4 hok ih hm hk hB hj hT hy hh hK hU hu hc hse hen hL hX hV hZ
      generalize vis cs [] xs gs f=V at*
      generalize vis cs [] xs gs (f+1) seen n path=R at*
      have gQ:=X8
      go_enter Tryz.func28,Tryz.ntmps28
      go_wp2_with(first
       |(go_at_call 30;refine(hG.o _ _ _ _ _ S4.o.fs hf.o).mono ?_;rintro e w5 ⟨A,m,c,rfl,hs,g6⟩;have S5:=h_ (S4.o.go hs);have F5:=h_ (F4.o.trans (Frm.of_below hs));have hw:=h_ g6;clear hs g6)
       |(go_at_call 29;refine HL.o.mono ?_;rintro e w2 ⟨G,D,q,d,rfl,h0,h6,h9⟩;have S3:=h_ ((HS.o.go h0).alloc (.cells #[.int .i64 2,.int .i64 G,.int .i64 k,.slice D q d] 67));obtain⟨s0,s1⟩:=h7.o _ S3.o;have S4:=h_ (S3.o.mark n);have F4:Hid (Frm B.sb W ((w2.alloc (.cells #[.int .i64 2,.int .i64 G,.int .i64 k,.slice D q d] 67)).setCell ⟨B.sb,n,none⟩ (.int .i64 1))):=h_ (((Frm.of_below h0).trans (Frm.of_below (br.alloc ler _))).cell n _);have h5:=h_ (cp (a:=⟨B.sb,n,none⟩) (v:=.int .i64 1) (A_ w2 (.cells #[.int .i64 2,.int .i64 G,.int .i64 k,.slice D q d] 67)) (Fm hq.o h0));have hf:=h_ (Fj (n:=n) hq.o h6 h9 (.cells #[.int .i64 2,.int .i64 G,.int .i64 k,.slice D q d] 67));have k0:=aj h5.o 0;have k1:=aj h5.o 1;have k2:=aj h5.o 2;have k3:=aj h5.o 3;have k4:=aj S4.o.fbox 0;simp only [sA,sB,sC]at k0 k1 k2 k3 k4;clear h0 h6 h9))
      have gM:=hw.o.len
      subst gM
      have gJ:=h_ (S5.o.ents hw.o)
      have gH:Hid (L.length≤maxLen∧W.heap.size≤w5.heap.size):=h_ ⟨by have h1:=hw.o.le;have h2:=hw.o.top;omega,F5.o.size⟩
      clear s0 s1 k0 k1 k2 k3 k4 HL h7 hG
      have gT:(L.length:Int)≤9223372036854775807:=by have h1:=gH.o.1;unfold maxLen at h1;omega
      go_loopw [62] (fun v62 wr=>∃(i:Nat) (s:List Nat) (hJ:List be),i≤L.length∧v62= .int .i64 i∧Hid (WhS B tf tv ts cs xs gs fr os v w0 s wr)∧Hid (ab wr w5.heap.size A L.length c ay.cells 2 L)∧Hid (Frm B.sb W wr)∧Hid (w5.heap.size≤wr.heap.size)∧Hid (fp V path (n::seen) (L.drop 0)=lv hJ (fp V path s (L.drop i)))) (fun v62 _=>L.length- (intOf v62).toNat)
      case atStart=>exact⟨0,n::seen,[],zl,rfl,S5.o,hw.o,F5.o,Nat.le_refl _,h_ (by rw [Fw])⟩
      case round=>
       obtain⟨i,s,hJ,hi,rfl,g0,g4,g8,hY,HQ⟩:=hrel
       rename World=>wr
       by_cases hlt:i <L.length
       ·obtain⟨t,ht⟩:∃t,L[i]?=some t:=⟨_,gE hlt⟩
        have hR:=gF.o t (List.mem_of_getElem? ht)
        obtain⟨nm,g9⟩:=t
        simp only at hR
        obtain⟨kk,rfl⟩:∃kk:Nat,g9=kk:=⟨g9.toNat,by omega⟩
        have hP:kk <48:=by omega
        obtain⟨ga,o,hA,gW,hF⟩:=g4.o.at_ i _ ht
        have e0:wr.cell? ⟨ga,o+i*2,none⟩=some (.string nm):=by simpa using hF 0 _ rfl
        have e1:wr.cell? ⟨ga,o+i*2+1,none⟩=some (.int .i64 kk):=hF 1 _ rfl
        subst hA
        have gI:(i:Int) < (L.length:Int):=by omega
        have S7:=h_ (g0.o.alloc (.cells #[.string nm,.int .i64 kk] 99))
        have F7:Hid (Frm B.sb wr (wr.alloc (.cells #[.string nm,.int .i64 kk] 99))):=h_ (Frm.of_below (br.alloc ler _))
        have c4:=rc0 S7.o.vbox
        have hH:=gG.o s kk (path++47::bl nm) _ hP S7.o
        cases hv:V s kk (path++47::bl nm)with
        |none=>
         have HC:=h_ (Mh hH hv)
         have hC:=h_ (h8.o (by rw [HV.o,HQ.o,Fv ht (by simpa using hv)];rfl))
         clear hv hH ht hF hlt hR hP
         go_wp2_with(refine HC.o.mono ?_;rintro e w8 ⟨rfl,gP⟩)
         have HZ:=hC.o _ gP
         first|exact HZ|(go_ret;exact HZ)|(go_ret2;exact HZ)
        |some r=>
         obtain⟨s1,l1⟩:=r
         have HC:=h_ (Mg hH hv)
         have gL:Hid (fp V path (n::seen) (L.drop 0)=lv (hJ++l1) (fp V path s1 (L.drop (i+1)))):=h_ (by rw [HQ.o,Ft ht (by simpa using hv),Fx])
         have gK:=h_ (show i+1≤L.length by omega)
         clear hv hH ht hF hR hP
         go_wp2_with(refine HC.o.mono ?_;rintro e w8 ⟨rfl,g3,g2⟩;have gB:=h_ g3;have hN:=h_ (F7.o.trans g2);clear g3 g2)
         go_roundw
         case rel=>exact⟨i+1,s1,hJ++l1,gK.o,by go_num,gB.o,g4.o.frm hN.o gJ.o hY.o,g8.o.trans hN.o,Nat.le_trans hY.o hN.o.size,gL.o⟩
         case measure=>simp [intOf];omega
       ·have gI:¬(i:Int) < (L.length:Int):=by omega
        have hC:=h_ (hz.o s _ (by rw [HV.o,HQ.o,Fu (by omega),qz,qz]) _ g0.o g8.o)
        go_wp2
        have HZ:=hC.o
        first|exact HZ|(go_ret;exact HZ)|(go_ret2;exact HZ)
     ·have hG:Hid (∀W' G D q d,FsT B.b cs [] xs gs fr os v W'→ab W' W'.heap.size D q d aa.cells 2 ps→Calls Tryz.prog 30 #[.pointer (some ⟨B.b,0,none⟩),.int .i64 n,.agg #[.int .i64 2,.int .i64 G,.int .i64 k,.slice D q d]] W' fun e w'=>∃A m c E,e= .returned (.tuple #[.slice A m c,.int .i64 E])∧(E !=0)=true∧Below W'.heap.size W' w'):=h_ fun W' G D q d h1 h2=>by rw [hc]at h2;have h3:=K2 B.b cs [] xs gs fr os v n 2 G k D q d _ W' h1 hd h2 hB hj hy;rw [←hu]at h3;exact s0d h3 (fun h=>hen ⟨h.2.1,h.2.2⟩)
      have hC:Hid (∀w',Below B.lo w0 w'→PP (.returned (.bool false)) w'):=h_ (h8.o (by
 by_cases hgo:i8 cs [] n k (pts cs [] ⟨pc,pn⟩)
 ·exact Fq hp h4 hK (by rw [hT];exact fun h=>hen ⟨hgo,h⟩)
 ·exact sf hp h4 (fun h=>hgo (hh.o.1 h))))
      clear hd hx hg hp h4 hok ih h8 hz hm hk hB hj hT hy hh hK hU hu hc hse hen
      go_enter Tryz.func28,Tryz.ntmps28
      go_wp2_with(first
       |(go_at_call 30;refine(hG.o _ _ _ _ _ S4.o.fs hf.o).mono ?_;rintro e w5 ⟨A,m,c,E,rfl,g1,hs⟩;have S5:=h_ (S4.o.go hs);clear hs)
       |(go_at_call 29;refine HL.o.mono ?_;rintro e w2 ⟨G,D,q,d,rfl,h0,h6,h9⟩;have S3:=h_ ((HS.o.go h0).alloc (.cells #[.int .i64 2,.int .i64 G,.int .i64 k,.slice D q d] 67));obtain⟨s0,s1⟩:=h7.o _ S3.o;have S4:=h_ (S3.o.mark n);have F4:Hid (Frm B.sb W ((w2.alloc (.cells #[.int .i64 2,.int .i64 G,.int .i64 k,.slice D q d] 67)).setCell ⟨B.sb,n,none⟩ (.int .i64 1))):=h_ (((Frm.of_below h0).trans (Frm.of_below (br.alloc ler _))).cell n _);have h5:=h_ (cp (a:=⟨B.sb,n,none⟩) (v:=.int .i64 1) (A_ w2 (.cells #[.int .i64 2,.int .i64 G,.int .i64 k,.slice D q d] 67)) (Fm hq.o h0));have hf:=h_ (Fj (n:=n) hq.o h6 h9 (.cells #[.int .i64 2,.int .i64 G,.int .i64 k,.slice D q d] 67));have k0:=aj h5.o 0;have k1:=aj h5.o 1;have k2:=aj h5.o 2;have k3:=aj h5.o 3;have k4:=aj S4.o.fbox 0;simp only [sA,sB,sC]at k0 k1 k2 k3 k4;clear h0 h6 h9))
      have HZ:=hC.o _ S5.o.below
      first|exact HZ|(go_ret;exact HZ)|(go_ret2;exact HZ)
  ·have HL:=h_ (Tf (vt B.b cs [] xs gs fr os v n pc pn g W hS.fs hd hp h4) hok)
   have HR:=h_ (h8.o (sf hp h4 (fun h=>hok ⟨h.1,h.2.1⟩)))
   clear hd hx hg hp h4 hok h7 ih h8
   go_enter Tryz.func28,Tryz.ntmps28
   go_wp2_with(go_at_call 29;refine HL.o.mono ?_;rintro e w2 ⟨G,rfl,h0⟩;have S2:=h_ (HS.o.go h0);clear h0)
   have HZ:=HR.o _ (S2.o.alloc (.cells #[.int .i64 0,.int .i64 G,.int .i64 0,.slice none 0 0] 67)).below
   first|exact HZ|(go_ret;exact HZ)|(go_ret2;exact HZ)
end Go.Proofs.YtcldpfhpkbeaiadGreat
