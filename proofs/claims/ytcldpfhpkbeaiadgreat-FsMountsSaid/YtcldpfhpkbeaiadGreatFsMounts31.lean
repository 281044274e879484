/- A part of the proof of FsMounts. No condition of ours. -/
import Derived.Test.YtcldpfhpkbeaiadGreatFsMounts30
set_option maxRecDepth 100000
set_option maxHeartbeats 4000000
namespace Go.Proofs.YtcldpfhpkbeaiadGreat
section
open Go.RowKit Go.PlainAid
def Ln(ob lo:Nat)(tO:TypeId)(w0 W:World)(items l:List be)(A:Option Addr)(e:Ending)(w':World):Prop:=
 e= .returned (.bool true)∧∃A' c',ItI ob lo tO w0 (items++l) A' c' w'∧FrI ob A W A' w'
theorem s0b{ok:Prop}{L:List ay}{w:World}{f:FuncId}{args:Array Value}(h:Calls Tryz.prog f args w (qx ok L w))(hok:ok):Calls Tryz.prog f args w fun e w'=>∃A m c,e= .returned (.tuple #[.slice A m c,.int .i64 0])∧Below w.heap.size w w'∧ab w' w'.heap.size A m c ay.cells 2 L∧(∀a,A=some a→w.heap.size≤a.block):=
 h.mono fun _ _ ⟨⟨A,m,c,E⟩,e1,h1,h2,h3⟩=>by have h4:E=0:=h1.1 hok;subst h4;exact⟨A,m,c,e1,h2,h3 hok⟩
theorem Zx{cs:List ByteArray}{xs:List aa}{gs:List Int}{f n:Nat}{seen:List Nat}{path:List UInt8}{p:aa}{g:Int}{r:List Nat×List be}(hp:xs[n]?=some p)(hg:gs[n]?=some g)(h:vis cs [] xs gs (f+1) seen n path=some r):n∉seen∧kc cs [] n p g:=by
 constructor
 ·intro h0;rw [Fp h0]at h;cases h
 ·by_cases h0:kc cs [] n p g
  ·exact h0
  ·rw [sf hp hg h0]at h;cases h
theorem Yz(path:List UInt8)(nm:ByteArray):(mkS path++(⟨#[47]⟩:ByteArray))++nm=mkS (path++47::bl nm):=by rw [Ip,Ip,show bl (⟨#[47]⟩:ByteArray)=[47]from rfl,List.append_assoc];rfl
theorem Sq{s:ByteArray}(h:je s=0):s.size≤12:=by have h2:=Sm h;unfold Aq at h2;omega
theorem ya(path:List UInt8):(mkS path=⟨#[]⟩∧mkS (if path=[]then [47]else path)=⟨#[47]⟩)∨((mkS path).toList.isEmpty=false∧mkS (if path=[]then [47]else path)=mkS path):=by
 cases path with
 |nil=>left;exact⟨rfl,rfl⟩
 |cons a r=>
  right;refine⟨?_,by rw [if_neg (by simp)]⟩;have h:=me (a:=mkS (a::r)) (b:=⟨#[]⟩) (fun e=>by have h2:=congrArg bl e;rw [Kz]at h2;cases h2);cases h2:(mkS (a::r)).toList with
  |nil=>rw [h2,show(⟨#[]⟩:ByteArray).toList=[] by first|rfl|decide|(rw [ByteArray.toList,ByteArray.toList.loop];rfl)|simp [go_sem]]at h;cases h
  |cons x y=>rfl
theorem Mx{ob lo:Nat}{tO:TypeId}{w0 W:World}{items:List be}{A:Option Addr}{c:Nat}(h:ItI ob lo tO w0 items A c W)(W3 w4:World)(A4:Option Addr)(g:Nat)(bx:Array Value)(tB:TypeId)(fr:Nat×Nat)(hM:W3.heap[g]?=some (.cells bx tB fr))(hg:W.heap.size≤g)(hF:FrI ob A W3 A4 w4):w4.heap[g]?=some (.cells bx tB fr):=by
 have ho:=ag h.obox
 rw [hF.block g (ag hM) (by omega) (fun a ha e=>by
   have:=(h.own.lt a.block (by rw [ha];rfl)).2
   omega)]
 exact hM
theorem a0c{ob N n c:Nat}{AL A6 A8:Option Addr}{wr w8:World}{L:List ay}(r:ab wr N AL n c ay.cells 2 L)(h:FrI ob A6 wr A8 w8)(hN:N≤wr.heap.size)(hob:∀a,AL=some a→a.block≠ob)(hap:∀a,AL=some a→∀a6,A6=some a6→a6.block≠a.block):ab w8 N AL n c ay.cells 2 L:=
 r.far_keep fun g ⟨_,e,_⟩ hg=>h.block g (Nat.lt_of_lt_of_le hg hN) (hob _ e) (fun a6 h6=>hap _ e a6 h6)
theorem a0d{ob N ga o:Nat}{A6 A8:Option Addr}{wr w8:World}(hga:ga <N)(h:FrI ob A6 wr A8 w8)(hN:N≤wr.heap.size)(hap:∀a,some (⟨ga,o,none⟩:Addr)=some a→∀a6,A6=some a6→a6.block≠a.block):∀a,some (⟨ga,o,none⟩:Addr)=some a→∀a8,A8=some a8→a8.block≠a.block:=fun a ha a8 h8=>by
 have e:a.block=ga:=by injection ha with ha;rw [←ha]
 rw [e];exact h.far (Nat.lt_of_lt_of_le hga hN) (fun a6 h6=>by have:=hap a ha a6 h6;rwa [e]at this) a8 h8
theorem a0b{ob lo:Nat}{tO:TypeId}{w0 W:World}{items:List be}{A:Option Addr}{c:Nat}(h:ItI ob lo tO w0 items A c W)(W3 w4:World)(A4 D:Option Addr)(q d:Nat){ps:List aa}(hr:ab W3 W3.heap.size D q d aa.cells 2 ps)(hD:∀a,D=some a→W.heap.size≤a.block)(hF:FrI ob A W3 A4 w4):ab w4 w4.heap.size D q d aa.cells 2 ps:=by
 have ho:=ag h.obox;refine(hr.far_keep (w':=w4) fun g ⟨o,e,_⟩ hg=>hF.block g hg ?_ (fun a ha e2=>?_)).more hF.size
 ·have:=hD _ e;simp only at this;omega
 ·have h1:=hD _ e;have h2:=(h.own.lt a.block (by rw [ha];rfl)).2;simp only at h1;omega
theorem Zw(b ob fb:Nat)(tO tf:TypeId)(cs:List ByteArray)(xs:List aa)(gs fr:List Int)(os:List OpD)(v:FsV)(w0:World)(hf0:FsT b cs [] xs gs fr os v w0)(hd:au cs []=0)(hx:xs.length=48)(hg:gs.length=48)(hfo:fb <ob)(f:Nat):∀(seen:List Nat) (n:Nat) (path:List UInt8) (W:World) (h0:List be) (A:Option Addr) (c:Nat) (s:List Nat) (l:List be),n <48→vis cs [] xs gs f seen n path=some (s,l)→ItI ob w0.heap.size tO w0 h0 A c W→W.heap[fb]?=some (.cells #[.pointer (some ⟨b,0,none⟩)] tf (0,0))→h0.length+l.length≤1000→path.length+13*f≤1000→
 Calls Tryz.prog 18 #[.pointer (some ⟨b,0,none⟩),.int .i64 n,.string (mkS path),.func (.func 19) #[] #[.pointer (some ⟨fb,0,none⟩),.pointer (some ⟨ob,0,none⟩)]] W (Ln ob w0.heap.size tO w0 W h0 l A):=by
 induction f with
 |zero=>intro seen n path W h0 A c s l _ hv;rw [uc]at hv;cases hv
 |succ f ih=>
  intro seen n path W h0 A c s l hn hv hI hj g7 gX
  obtain⟨⟨pc,pn⟩,hp⟩:∃p,xs[n]?=some p:=⟨_,gE (by omega)⟩
  obtain⟨g,hc⟩:∃g,gs[n]?=some g:=⟨_,gE (by omega)⟩
  obtain⟨hs,h4⟩:=Zx hp hc hv
  have gU:=u0q
  have hf:=Da h4.2.1
  obtain⟨k,hk⟩:∃k:Nat,ndS cs [] ⟨pc,pn⟩=k:=⟨(ndS cs [] ⟨pc,pn⟩).toNat,by omega⟩
  have hB:k≤4096:=by have:=hf.2.2.1;omega
  have hr:(pts cs [] ⟨pc,pn⟩).length=npt k:=by have:=hf.2.2.2.1;rw [hk,Int.toNat_natCast]at this;exact this
  have hT:ndT cs [] ⟨pc,pn⟩=mkS (whB k 0 ((pts cs [] ⟨pc,pn⟩).map (dtT cs []))):=by unfold ndT ndB;rw [hk,Int.toNat_natCast]
  have hD:i8 cs [] n k (pts cs [] ⟨pc,pn⟩):=by have:=h4.2.2;rw [hk]at this;exact this
  have hC:fy k ((pts cs [] ⟨pc,pn⟩).map (dtT cs []))=0:=by have:=(Kh h4.2.1 h4.2.2).2;rw [hk]at this;exact this
  have HL:=h_ (Cu (vt b cs [] xs gs fr os v n pc pn g W (hf0.below hI.below) hd hp hc) ⟨h4.1,h4.2.1⟩)
  rw [hk]at HL
  by_cases hK:ndK cs [] ⟨pc,pn⟩=1
  ·rw [hK]at HL
   have hl:l=[⟨path,1,ndT cs [] ⟨pc,pn⟩⟩]:=by rw [Fr hp hc hs h4 hK]at hv;injection hv with hv;injection hv with _ hv;exact hv.symm
   have hz:Hid (∀W' G D q d,Below W.heap.size W W'→ab W' W'.heap.size D q d aa.cells 2 (pts cs [] ⟨pc,pn⟩)→Calls Tryz.prog 19 #[.int .i64 n,.string (mkS path),.agg #[.int .i64 1,.int .i64 G,.int .i64 k,.slice D q d],.pointer (some ⟨fb,0,none⟩),.pointer (some ⟨ob,0,none⟩)] W' (se ob w0.heap.size tO w0 W' h0 A ⟨path,1,ndT cs [] ⟨pc,pn⟩⟩)):=h_ fun W' G D q d h1 h2=>w0t b ob w0.heap.size fb tO tf cs xs gs fr os v w0 h0 A c n (mkS path) (mkS (if path=[]then [47]else path)) ⟨path,1,ndT cs [] ⟨pc,pn⟩⟩ G k D q d _ W' ((hf0.below hI.below).below h1) hd (ah hj (ag hj) h1) h2 hB hr hD hC (ya path) (by rw [hT];rfl) (hI.go h1) (by omega)
   have hN:=h_ (Mx hI)
   rw [hl]
   clear hv hk hB hr hT hD hC hf h4 hs hp hc hl ih hf0 hd hx hg hI hj hK
   generalize pts cs [] ⟨pc,pn⟩=ps at*
   generalize(⟨path,1,ndT cs [] ⟨pc,pn⟩⟩:be)=x at*
   generalize ndT cs [] ⟨pc,pn⟩=TT at*
   go_enter Tryz.func18,Tryz.ntmps18
   go_wp2_with(first
    |(refine(hz.o _ _ _ _ _ B3.o R3.o).mono ?_;rintro e w4 ⟨rfl,A4,c4,hh,h8⟩;have he:=h_ hh;have hQ:=h_ ((FrI.of_below B3.o).trans h8);have h9:=hN.o _ _ _ _ _ _ _ M3.o Z3.o h8;have t0:=rc0 h9;clear hh h8 h9)
    |(go_at_call 29;refine HL.o.mono ?_;rintro e w2 ⟨G,D,q,d,rfl,h5,hw,hm⟩;have B3:Hid (Below W.heap.size W (w2.alloc (.cells #[.int .i64 1,.int .i64 G,.int .i64 k,.slice D q d] 67))):=h_ (h5.alloc h5.size _);have R3:Hid (ab (w2.alloc (.cells #[.int .i64 1,.int .i64 G,.int .i64 k,.slice D q d] 67)) (w2.alloc (.cells #[.int .i64 1,.int .i64 G,.int .i64 k,.slice D q d] 67)).heap.size D q d aa.cells 2 ps):=h_ (iv hm _);have M3:=h_ (A_ w2 (.cells #[.int .i64 1,.int .i64 G,.int .i64 k,.slice D q d] 67));have Z3:Hid (W.heap.size≤w2.heap.size):=h_ h5.size;clear h5 hw hm))
   have HZ:Ln ob w0.heap.size tO w0 W h0 [x] A (.returned (.bool true)) w4:=⟨rfl,A4,c4,he.o,hQ.o⟩
   first|exact HZ|(go_ret;exact HZ)|(go_ret2;exact HZ)
  ·have hR:ndK cs [] ⟨pc,pn⟩=2:=hf.1.resolve_left hK
   rw [hR]at HL
   have hy:rdE (ndT cs [] ⟨pc,pn⟩)=0:=by
    by_cases h:rdE (ndT cs [] ⟨pc,pn⟩)=0
    ·exact h
    ·rw [Fq hp hc hK h]at hv;cases hv
   have hV:=Fs (path:=path) hp hc hs h4 hK (f:=f) (cs:=cs) (ws:=[]) hy
   rw [hv,hR]at hV
   obtain⟨it,hJ⟩:∃it:be,it=⟨path,2,⟨#[]⟩⟩:=⟨_,rfl⟩
   rw [←hJ]at hV
   obtain⟨T,hG⟩:∃T,T=ndT cs [] ⟨pc,pn⟩:=⟨_,rfl⟩
   obtain⟨L,hL⟩:∃L,L=rdR T:=⟨_,rfl⟩
   rw [←hG,←hL]at hV
   rw [←hG]at hy hT
   have hz:Hid (∀W' G D q d,Below W.heap.size W W'→Calls Tryz.prog 19 #[.int .i64 n,.string (mkS path),.agg #[.int .i64 2,.int .i64 G,.int .i64 k,.slice D q d],.pointer (some ⟨fb,0,none⟩),.pointer (some ⟨ob,0,none⟩)] W' (se ob w0.heap.size tO w0 W' h0 A it)):=h_ fun W' G D q d h1=>w0u ob w0.heap.size fb tO w0 h0 A c n (mkS path) (mkS (if path=[]then [47]else path)) it 2 G k D q d W' (ya path) (by rw [hJ];rfl) (hI.go h1) (by decide) (by omega)
   have hW:Hid (∀W' G D q d,FsT b cs [] xs gs fr os v W'→ab W' W'.heap.size D q d aa.cells 2 (pts cs [] ⟨pc,pn⟩)→Calls Tryz.prog 30 #[.pointer (some ⟨b,0,none⟩),.int .i64 n,.agg #[.int .i64 2,.int .i64 G,.int .i64 k,.slice D q d]] W' fun e w'=>∃A m c,e= .returned (.tuple #[.slice A m c,.int .i64 0])∧Below W'.heap.size W' w'∧ab w' w'.heap.size A m c ay.cells 2 L∧(∀a,A=some a→W'.heap.size≤a.block)):=h_ fun W' G D q d h1 h2=>by have h3:=K2 b cs [] xs gs fr os v n 2 G k D q d _ W' h1 hd h2 hB hr (fun _=>hC);rw [←hT,←hL]at h3;exact s0b h3 ⟨rfl,hD,hy⟩
   have gG:Hid (∀x∈L,0≤x.Ino∧x.Ino≤47∧x.Name.size≤12):=h_ (fun x hx=>by rw [hL]at hx;have h:=(Bx (s:=T)).2 x hx;exact⟨h.2.1,h.2.2,Sq h.1⟩)
   have gT:(mkS path).size=path.length:=by simp [mkS,ByteArray.size]
   have gH:=h_ ih
   have HV:=h_ hV
   have hN:=h_ (Mx hI)
   have gF:=h_ (fun(W3 w4:World) (A4:Option Addr) (D:Option Addr) (q d:Nat) (h1:ab W3 W3.heap.size D q d aa.cells 2 (pts cs [] ⟨pc,pn⟩)) (h2:∀a,D=some a→W.heap.size≤a.block) (h3:FrI ob A W3 A4 w4)=>a0b hI W3 w4 A4 D q d h1 h2 h3)
   have gP:Hid (∀(its:List be) (A4:Option Addr) (c4:Nat) (w4:World),ItI ob w0.heap.size tO w0 its A4 c4 w4→FsT b cs [] xs gs fr os v w4):=h_ fun its A4 c4 w4 h=>hf0.below h.below
   have hS:=h_ hj
   have gC:=h_ hI
   have gI:Hid (h0.length+l.length≤1000):=h_ g7
   clear hv hk hB hr hT hG hL hD hC hf h4 hs hp hc ih hf0 hd hx hg hI hj hK hR hy hV hJ g7
   generalize pts cs [] ⟨pc,pn⟩=ps at*
   generalize vis cs [] xs gs f=V at*
   go_enter Tryz.func18,Tryz.ntmps18
   go_wp2_with(first
    |(go_at_call 30;refine(hW.o _ _ _ _ _ (gP.o _ _ _ _ he.o) R4.o).mono ?_;rintro e w5 ⟨AL,m,cL,rfl,hE,g2,hX⟩;have gB:=h_ (he.o.go hE);have gJ:=h_ (hQ.o.trans (FrI.of_below hE));have hu:=h_ g2;have gg:=h_ hX;have gY:=h_ hE;clear hE g2 hX)
    |(refine(hz.o _ _ _ _ _ B3.o).mono ?_;rintro e w4 ⟨rfl,A4,c4,hh,h8⟩;have he:=h_ hh;have hQ:=h_ ((FrI.of_below B3.o).trans h8);have R4:=h_ (gF.o _ _ _ _ _ _ R3.o N3.o h8);have h9:=hN.o _ _ _ _ _ _ _ M3.o Z3.o h8;have t0:=rc0 h9;have t1:=rc1 h9;have t2:=rc2 h9;have t3:=rc3 h9;clear hh h8 h9)
    |(go_at_call 29;refine HL.o.mono ?_;rintro e w2 ⟨G,D,q,d,rfl,h5,hw,hm⟩;have B3:Hid (Below W.heap.size W (w2.alloc (.cells #[.int .i64 2,.int .i64 G,.int .i64 k,.slice D q d] 67))):=h_ (h5.alloc h5.size _);have R3:Hid (ab (w2.alloc (.cells #[.int .i64 2,.int .i64 G,.int .i64 k,.slice D q d] 67)) (w2.alloc (.cells #[.int .i64 2,.int .i64 G,.int .i64 k,.slice D q d] 67)).heap.size D q d aa.cells 2 ps):=h_ (iv hm _);have M3:=h_ (A_ w2 (.cells #[.int .i64 2,.int .i64 G,.int .i64 k,.slice D q d] 67));have Z3:Hid (W.heap.size≤w2.heap.size):=h_ h5.size;have N3:=h_ hw;clear h5 hw hm))
   have gK:L.length=m:=hu.o.len
   subst gK
   have gW:(L.length:Int)≤9223372036854775807:=by have h1:=hu.o.le;have h2:=hu.o.top;unfold maxLen at h2;omega
   have gw:Hid (∀a,AL=some a→∀a6,A4=some a6→a6.block≠a.block):=h_ fun a ha a6 h6 e=>by have h1:=gg.o a ha;have h2:=(he.o.own.lt a6.block (by rw [h6];rfl)).2;omega
   have gS:Hid (∀a,AL=some a→a.block≠ob):=h_ fun a ha e=>by have h1:=gg.o a ha;have h2:=ag he.o.obox;omega
   clear t0 t1 t2 t3 HL hW hz
   go_loopw [44] (fun v44 wr=>∃(i:Nat) (s1:List Nat) (h7:List be) (A6:Option Addr) (c6:Nat),i≤L.length∧v44= .int .i64 i∧Hid (ItI ob w0.heap.size tO w0 (h0++[it]++h7) A6 c6 wr)∧Hid (ab wr w5.heap.size AL L.length cL ay.cells 2 L)∧Hid (FrI ob A W A6 wr)∧Hid (w5.heap.size≤wr.heap.size)∧Hid (∀a,AL=some a→∀a6,A6=some a6→a6.block≠a.block)∧Hid (fp V path (n::seen) (L.drop 0)=lv h7 (fp V path s1 (L.drop i)))) (fun v44 _=>L.length- (intOf v44).toNat)
   case atStart=>exact⟨0,n::seen,[],A4,c4,zl,rfl,h_ (by rw [List.append_nil];exact gB.o),hu.o,gJ.o,h_ ler,gw.o,h_ (by rw [Fw])⟩
   case round=>
    obtain⟨i,s1,h7,A6,c6,hi,rfl,g9,g1,hP,hH,g5,HQ⟩:=hrel
    rename World=>wr
    by_cases hlt:i <L.length
    ·obtain⟨t,ht⟩:∃t,L[i]?=some t:=⟨_,gE hlt⟩
     have g8:=gG.o t (List.mem_of_getElem? ht)
     obtain⟨nm,hY⟩:=t
     simp only at g8
     obtain⟨kk,rfl⟩:∃kk:Nat,hY=kk:=⟨hY.toNat,by omega⟩
     have hZ:kk <48:=by omega
     obtain⟨ga,o,hA,gQ,hF⟩:=g1.o.at_ i _ ht
     have e0:wr.cell? ⟨ga,o+i*2,none⟩=some (.string nm):=by simpa using hF 0 _ rfl
     have e1:wr.cell? ⟨ga,o+i*2+1,none⟩=some (.int .i64 kk):=hF 1 _ rfl
     subst hA
     have gL:(i:Int) < (L.length:Int):=by omega
     have z1:¬(9223372036854775807:Nat) < (mkS path).size+1:=by omega
     have z2:¬(9223372036854775807:Nat) < (mkS path).size+1+nm.size:=by omega
     cases hv:V s1 kk (path++47::bl nm)with
     |none=>
      have h1:=HV.o
      rw [HQ.o,Fv ht (by simpa using hv)]at h1
      cases h1
     |some r=>
      obtain⟨s2,l2⟩:=r
      have g6:Hid (fp V path (n::seen) (L.drop 0)=lv (h7++l2) (fp V path s2 (L.drop (i+1)))):=h_ (by rw [HQ.o,Ft ht (by simpa using hv),Fx])
      have g0:(h0++[it]++h7).length+l2.length≤1000:=by
       have h1:=HV.o;rw [g6.o]at h1;cases h2:fp V path s2 (L.drop (i+1))with
       |none=>rw [h2]at h1;cases h1
       |some r2=>obtain⟨s3,l3⟩:=r2;rw [h2,qz,qz]at h1;injection h1 with h1;injection h1 with _ h1;have h3:=gI.o;rw [h1]at h3;simp at h3⊢;omega
      have B7:Below wr.heap.size wr (wr.alloc (.cells #[.string nm,.int .i64 kk] 99)):=br.alloc ler _
      have gb:=g9.o.go B7
      have hU:(wr.alloc (.cells #[.string nm,.int .i64 kk] 99)).heap[fb]?=some (.cells #[.pointer (some ⟨b,0,none⟩)] tf (0,0)):=cq (by
 rw [hP.o.block fb (ag hS.o) (by omega) (fun a ha e=>by have:=(gC.o.own.lt a.block (by rw [ha];rfl)).1;omega)]
 exact hS.o) _
      have hM:=gH.o s1 kk (path++47::bl nm) _ (h0++[it]++h7) A6 c6 s2 l2 hZ hv gb hU g0 (by simp [m9];omega)
      rw [←Yz]at hM
      have HC:=h_ hM
      have gD:Hid (FrI ob A6 wr A6 (wr.alloc (.cells #[.string nm,.int .i64 kk] 99))):=h_ (FrI.of_below B7)
      have gM:=h_ (show i+1≤L.length by omega)
      clear hv hM ht hF g8 hZ g0 B7 gb hU
      go_wp2_with(refine HC.o.mono ?_;rintro e w8 ⟨rfl,A8,c8,g3,g4⟩;have gN:=h_ g3;have hq:=h_ (gD.o.trans g4);clear g3 g4)
      go_roundw
      case rel=>exact⟨i+1,s2,h7++l2,A8,c8,gM.o,by go_num,h_ (by rw [←List.append_assoc];exact gN.o),a0c g1.o hq.o hH.o gS.o g5.o,hP.o.trans hq.o,h_ (Nat.le_trans hH.o hq.o.size),a0d gQ hq.o hH.o g5.o,g6.o⟩
      case measure=>simp [intOf];omega
    ·have gL:¬(i:Int) < (L.length:Int):=by omega
     have hl:l=it::h7:=by have h1:=HV.o;rw [HQ.o,Fu (by omega),qz,qz]at h1;injection h1 with h1;injection h1 with _ h1;rw [h1];simp
     have HZ:Ln ob w0.heap.size tO w0 W h0 (it::h7) A (.returned (.bool true)) wr:=⟨rfl,A6,c6,by have:=g9.o;rw [List.append_assoc]at this;exact this,hP.o⟩
     subst hl
     go_wp2
     go_ret
     first|exact HZ|(rw [hl]at HZ;exact HZ)
end
section
open Go.RowKit
def Ez(ok:Prop)(sz:Int)(L:List ByteArray)(w:World)(e:Ending)(w':World):Prop:=
 ∃z:Int×Option Addr×Nat×Nat×Bool,e= .returned (.tuple #[.agg #[.int .i64 z.1,.slice z.2.1 z.2.2.1 z.2.2.2.1],.bool z.2.2.2.2])∧(ok↔z.2.2.2.2=true)∧DtQ ok sz L w w' z.1 z.2.1 z.2.2.1 z.2.2.2.1
theorem k0r(w:World)(o1 o2 o3 o4:Obj):((((w.alloc o1).alloc o2).alloc o3).alloc o4).heap.size=w.heap.size+4∧Below w.heap.size w ((((w.alloc o1).alloc o2).alloc o3).alloc o4)∧
 ((((w.alloc o1).alloc o2).alloc o3).alloc o4).heap[w.heap.size]?=some o1∧((((w.alloc o1).alloc o2).alloc o3).alloc o4).heap[w.heap.size+1]?=some o2∧((((w.alloc o1).alloc o2).alloc o3).alloc o4).heap[w.heap.size+1+1]?=some o3∧((((w.alloc o1).alloc o2).alloc o3).alloc o4).heap[w.heap.size+1+1+1]?=some o4:=by
 obtain⟨h1,h2⟩:=vk w o1 o2 o3
 obtain⟨h3,h4,h5⟩:=nj w o1 o2 o3
 have h6:=A_ (((w.alloc o1).alloc o2).alloc o3) o4
 rw [h1]at h6
 exact⟨by simp,h2.alloc h2.size _,cq h3 _,cq h4 _,cq h5 _,h6⟩
theorem t0w(A:Option Addr)(m c:Nat)(cs:List ByteArray)(A':Option Addr)(m' c':Nat)(ws:List ae)(n:Nat)(K G:Int)(k:Nat)(D:Option Addr)(q d:Nat)(ps:List aa)(w:World)(r:ab w w.heap.size A m c (fun z=>[.string z]) 1 cs)(r':ab w w.heap.size A' m' c' ae.cells 2 ws)(hd:au cs ws=0)(hr:ab w w.heap.size D q d aa.cells 2 ps)(hs1:k≤4096)(hpl:ps.length=npt k)(hj:∀(i:Nat) (p:aa),ps[i]?=some p→(p.Cell=0∧p.Nth=0)∨(p.Cell≠0∧km cs ws n i p)):Calls Tryz.prog 41 #[.agg #[.slice A m c,.slice A' m' c'],.agg #[.int .i64 K,.int .i64 G,.int .i64 k,.slice D q d]] w (Ez (i8 cs ws n k ps) k (ps.map (dtT cs ws)) w):=by
 have ga:=hr.len;subst ga;have g0:=r.len;subst g0;have hZ:=r'.len;subst hZ;have gB:ps.length≤8:=by rw [hpl];unfold npt;omega
 obtain⟨wa,hw⟩:∃wa,wa=(((w.alloc (.cells #[.slice A cs.length c,.slice A' ws.length c'] 25)).alloc (.cells #[.int .i64 K,.int .i64 G,.int .i64 k,.slice D ps.length d] 67)).alloc (.cells cz 69)).alloc (.cells #[.int .i64 k,.slice none 0 0] 69):=⟨_,rfl⟩;obtain⟨hR,hI,hz,hE,hA,ht⟩:=k0r w (.cells #[.slice A cs.length c,.slice A' ws.length c'] 25) (.cells #[.int .i64 K,.int .i64 G,.int .i64 k,.slice D ps.length d] 67) (.cells cz 69) (.cells #[.int .i64 k,.slice none 0 0] 69);rw [←hw]at hR hI hz hE hA ht;obtain⟨O,hO⟩:∃O,O=w.heap.size+1+1+1:=⟨_,rfl⟩;rw [←hO]at ht;have gs:w.heap.size+1+1 <O:=by omega
 have I0:Hid (DtI O k (dtL cs ws ps 0) 0 none 0 wa wa):= {own:=af.nil _ _ _,out:=ht,below:=br,size:=by omega}
 have h2:Hid (∀W,Below O wa W→Below w.heap.size w W∧W.heap[w.heap.size]?=some (.cells #[.slice A cs.length c,.slice A' ws.length c'] 25 (0,0))∧ab W W.heap.size D ps.length d aa.cells 2 ps∧W.heap[w.heap.size+1]?=some (.cells #[.int .i64 K,.int .i64 G,.int .i64 k,.slice D ps.length d] 67 (0,0))∧W.heap[w.heap.size+1+1]?=some (.cells cz 69 (0,0))):=fun W hW=>by have hb:Below w.heap.size w W:=hI.trans (hW.mono (by omega));exact⟨hb,(hW.block _ (by omega)).trans hz,(hr.below hb).more hb.size,(hW.block _ (by omega)).trans hE,(hW.block _ (by omega)).trans hA⟩
 have hN:Hid (∀W pc pn,Below w.heap.size w W→Calls Tryz.prog 69 #[.agg #[.slice A cs.length c,.slice A' ws.length c'],.agg #[.int .i64 pc,.int .i64 pn]] W (s5 (ubE cs ws pc pn) (ubB cs ws pc pn) W)):=fun W pc pn hW=>La A _ c cs A' _ c' ws pc pn W ((r.below hW).more hW.size) ((r'.below hW).more hW.size) (jz hd).2.2.2.2
 unfold s5 at hN;have hX:=h_ hO;have hV:=h_ hw;have HD:=h_ hd;have gg:=h_ hpl;have g5:=h_ hj;have gw:(k:Int)≤4096:=by omega
 clear r r' hd hr hI hz hE hA ht hR hw hO hpl hj;go_enter Tryz.func41,Tryz.ntmps41;go_wp2;rw [←hV.o,←hX.o];clear hV;go_loopw [18] (fun v6 wr=>∃(i:Nat) (B:Option Addr) (e:Nat),i≤ps.length∧v6= .int .i64 i∧Hid (A0 cs ws n k ps i)∧Hid (DtI O k (dtL cs ws ps i) i B e wa wr)) (fun v6 _=>ps.length- (intOf v6).toNat)
 case atStart=>exact⟨0,none,0,zl,rfl,h_ (fun k p hk=>by omega),I0.o⟩
 case round=>
  obtain⟨i,B,e,hi,rfl,hG,hP⟩:=hrel;rename World=>wr
  clear I0;by_cases hlt:i <ps.length
  ·obtain⟨h8,h7,h9,hf,he⟩:=h2.o wr hP.o.below;obtain⟨p,hp⟩:∃p,ps[i]?=some p:=⟨_,gE hlt⟩;have hj:=g5.o i p hp;obtain⟨pc,pn⟩:=p;simp only at hj;obtain⟨bd,od,rfl,g6,hF⟩:=h9.at_ i _ hp;have p0:wr.cell? ⟨bd,od+i*2,none⟩=some (.int .i64 pc):=by simpa using hF 0 _ rfl
   have p1:wr.cell? ⟨bd,od+i*2+1,none⟩=some (.int .i64 pn):=hF 1 _ rfl;have HP:=h_ hp;clear hF h8 h7 h9 hf he g6 hp;have g7:(i:Int) < (ps.length:Int):=by omega
   have G3:Hid (i+1≤maxLen∧(i+1)*16≤140737488355328):=by unfold maxLen Hid;omega
   have G4:Hid (0 <1):=by simp [Hid]
   have h3:=h_ (hP.o.alloc (.cells #[.int .i64 pc,.int .i64 pn] 89));have g4:Hid ((wr.alloc (.cells #[.int .i64 pc,.int .i64 pn] 89)).heap.size=wr.heap.size+1):=h_ (by simp);rcases hj with⟨rfl,rfl⟩|⟨h0,hok⟩
   ·have G2:Hid (∀u∈(#[.string ⟨#[]⟩]:Array Value).toList,u.oneCell'=true):=by simp [Hid,Value.oneCell']
    have k1:=aj h3.o.out 1;go_wp2_with(at_builtin;refine dx (size:=1) (bytes:=16) (base:=O+1) (H:=wr.heap.size+1) (news:= #[.string ⟨#[]⟩]) rfl rfl Tryz.underlying22 qf rfl G4.o h3.o.own rfl h3.o.size rfl g4.o rfl G2.o G3.o.1 G3.o.2 ?_;intro A3 c3 w3 hy hn g9;obtain⟨q1,q2⟩:=h3.o.cells hn);have HF:=h_ (h3.o.add hy hn);go_roundw
    case rel=>exact⟨i+1,A3,c3,by omega,by go_num,Du hG.o HP.o (.inl rfl),by rw [Dw HP.o];have:=HF.o;unfold dtT;rw [if_pos rfl];exact this⟩
    case measure=>simp [intOf];omega
   ·have g1:(pc==0)=false:=bF h0;obtain⟨h8,h7,h9,hf,he⟩:=h2.o _ h3.o.below
    have hg:Hid (∀W,Below w.heap.size w W→Calls Tryz.prog 69 #[.agg #[.slice A cs.length c,.slice A' ws.length c'],.agg #[.int .i64 pc,.int .i64 pn]] W fun e w'=>e= .returned (.tuple #[.agg #[.int .i64 (ubB cs ws pc pn).Kind,.int .i64 (ubB cs ws pc pn).Ino,.int .i64 (ubB cs ws pc pn).Nth,.string (ubB cs ws pc pn).Text],.int .i64 0])∧Below W.heap.size W w'):=h_ fun W hW=>by have:=hN.o W pc pn hW;rw [hok.1]at this;exact this
    have d0:=rc0 h7;have d1:=rc1 h7;have hv:=A_ wr (.cells #[.int .i64 pc,.int .i64 pn] 89);have c2:=rc0 hv;have c3:=rc1 hv;have hm:=h_ h8;obtain⟨T,hT⟩:∃T,T=ptX cs ws ⟨pc,pn⟩:=⟨_,rfl⟩;have hU:T.size≤1048575:=by rw [hT];exact Nat.le_trans (sg HD.o pc pn) (by decide)
    have hM:(ubB cs ws pc pn).Text=T:=hT.symm;rw [hM]at hg;obtain⟨u,hu⟩:∃u,u=(jd T).1:=⟨_,rfl⟩;obtain⟨e2,hC⟩:∃e2,e2=(jd T).2:=⟨_,rfl⟩;have hx:Hid (∀W,Calls Tryz.prog 71 #[.string T] W fun e w'=>e= .returned (.tuple #[.string u,.int .i64 e2])∧Below W.heap.size W w'):=fun W=>by rw [hu,hC];exact f0t T W hU
    obtain⟨Wd,hD⟩:∃Wd,Wd=wid k i:=⟨_,rfl⟩;have hH:Hid (∀W,Calls Tryz.prog 72 #[.int .i64 k,.int .i64 i] W fun e w'=>e= .returned (.int .i64 (Wd:Nat))∧w'=W):=fun W=>by rw [hD];exact Me k i (by omega) (by omega) W
    have hB:Hid (mp cs ws n k i ⟨pc,pn⟩↔e2=0∧u.size=Wd):=h_ (by
 rw [hu,hC,hD,hT]
 exact⟨fun h=>by rcases h with h|h;exact absurd h h0;exact h.2,fun h=>.inr ⟨hok,h⟩⟩)
    have HU:Hid (dtT cs ws ⟨pc,pn⟩=u):=h_ (by rw [hu,hT];unfold dtT;rw [if_neg h0]);obtain⟨bk,hY⟩:∃bk,bk=(ubB cs ws pc pn).Kind:=⟨_,rfl⟩;obtain⟨bi,hJ⟩:∃bi,bi=(ubB cs ws pc pn).Ino:=⟨_,rfl⟩;obtain⟨bn,hS⟩:∃bn,bn=(ubB cs ws pc pn).Nth:=⟨_,rfl⟩;rw [←hY,←hJ,←hS]at hg;have hK:Hid ((cz:Array Value).all (·.oneCell')=true):=by simp [Hid,Value.oneCell']
    clear h8 h7 h9 hf he hv hT hU hM hu hC hD hok hY hJ hS;by_cases he0:e2=0
    ·subst he0;by_cases hsz:u.size=Wd
     ·have G2:Hid (∀z∈(#[.string u]:Array Value).toList,z.oneCell'=true):=by simp [Hid,Value.oneCell']
      have g8:=h_ (hB.o.2 ⟨rfl,hsz⟩)
      go_wp2_with(first
       |(at_builtin;refine dx (size:=1) (bytes:=16) (base:=O+1) (news:= #[.string u]) rfl rfl Tryz.underlying22 qf rfl G4.o h1.o.own rfl h1.o.size rfl rfl rfl G2.o G3.o.1 G3.o.2 ?_;intro A3 c3 w4 hy hn g9;obtain⟨q1,q2⟩:=h1.o.cells hn)
       |(go_at_call 72;refine(hH.o _).mono ?_;rintro e w4 ⟨rfl,rfl⟩)
       |(go_at_call 71;refine(hx.o _).mono ?_;rintro e w3 ⟨rfl,h5⟩;have h1:=h_ ((hh.o.alloc _).go h5);have k1:=aj h1.o.out 1;have k2:w3.cell? ⟨w.heap.size+1,2,none⟩=some (.int .i64 k):=aj (h2.o _ h1.o.below).2.2.2.1 2;have hc:=h_ (h2.o _ h1.o.below).2.2.2.2;have hs:=h_ (h2.o _ h1.o.below).1;clear h5)
       |(go_at_call 69;refine(hg.o _ hm.o).mono ?_;rintro e w2 ⟨rfl,h4⟩;have hh:=h_ (h3.o.go h4);have h6:=A_ w2 (.cells #[.int .i64 bk,.int .i64 bi,.int .i64 bn,.string T] 85);have b3:=rc3 h6;clear h4 h6))
      have HF:=h_ (h1.o.add hy hn);go_roundw
      case rel=>exact⟨i+1,A3,c3,by omega,by go_num,Du hG.o HP.o g8.o,by rw [Dw HP.o,HU.o];exact HF.o⟩
      case measure=>simp [intOf];omega
     ·have g3:((u.size:Int)!=(Wd:Int))=true:=bN (fun e=>hsz (by omega));have hq:Hid (¬mp cs ws n k i ⟨pc,pn⟩):=h_ (fun h=>hsz (hB.o.1 h).2)
      go_wp2_with(first
       |(refine wpList_store_rowTo rfl _ _ _ rfl rfl (w.heap.size+1+1) cz rfl rfl 69 cz hc.o lq rfl hK.o ?_)
       |(go_at_call 72;refine(hH.o _).mono ?_;rintro e w4 ⟨rfl,rfl⟩)
       |(go_at_call 71;refine(hx.o _).mono ?_;rintro e w3 ⟨rfl,h5⟩;have h1:=h_ ((hh.o.alloc _).go h5);have k1:=aj h1.o.out 1;have k2:w3.cell? ⟨w.heap.size+1,2,none⟩=some (.int .i64 k):=aj (h2.o _ h1.o.below).2.2.2.1 2;have hc:=h_ (h2.o _ h1.o.below).2.2.2.2;have hs:=h_ (h2.o _ h1.o.below).1;clear h5)
       |(go_at_call 69;refine(hg.o _ hm.o).mono ?_;rintro e w2 ⟨rfl,h4⟩;have hh:=h_ (h3.o.go h4);have h6:=A_ w2 (.cells #[.int .i64 bk,.int .i64 bi,.int .i64 bn,.string T] 85);have b3:=rc3 h6;clear h4 h6))
      refine bodyPost_ret (cv rfl _ _ (w.heap.size+1+1) 69 cz (0,0) _ rfl (bh hc.o) Tryz.underlying69 rfl lq) rfl ?_;exact⟨(0,none,0,0,false),rfl,⟨fun h=>absurd h (pb HP.o hq.o),fun h=>by cases h⟩,below_setRow hs.o (by omega) _,(fun a ha=>by cases ha),.inr ⟨pb HP.o hq.o,rfl,rfl,rfl,rfl⟩⟩
    ·have g3:(e2 !=0)=true:=bN he0;have hq:Hid (¬mp cs ws n k i ⟨pc,pn⟩):=h_ (fun h=>he0 (hB.o.1 h).1)
     go_wp2_with(first
      |(refine wpList_store_rowTo rfl _ _ _ rfl rfl (w.heap.size+1+1) cz rfl rfl 69 cz hc.o lq rfl hK.o ?_)
      |(go_at_call 72;refine(hH.o _).mono ?_;rintro e w4 ⟨rfl,rfl⟩)
      |(go_at_call 71;refine(hx.o _).mono ?_;rintro e w3 ⟨rfl,h5⟩;have h1:=h_ ((hh.o.alloc _).go h5);have k1:=aj h1.o.out 1;have k2:w3.cell? ⟨w.heap.size+1,2,none⟩=some (.int .i64 k):=aj (h2.o _ h1.o.below).2.2.2.1 2;have hc:=h_ (h2.o _ h1.o.below).2.2.2.2;have hs:=h_ (h2.o _ h1.o.below).1;clear h5)
      |(go_at_call 69;refine(hg.o _ hm.o).mono ?_;rintro e w2 ⟨rfl,h4⟩;have hh:=h_ (h3.o.go h4);have h6:=A_ w2 (.cells #[.int .i64 bk,.int .i64 bi,.int .i64 bn,.string T] 85);have b3:=rc3 h6;clear h4 h6))
     refine bodyPost_ret (cv rfl _ _ (w.heap.size+1+1) 69 cz (0,0) _ rfl (bh hc.o) Tryz.underlying69 rfl lq) rfl ?_;exact⟨(0,none,0,0,false),rfl,⟨fun h=>absurd h (pb HP.o hq.o),fun h=>by cases h⟩,below_setRow hs.o (by omega) _,(fun a ha=>by cases ha),.inr ⟨pb HP.o hq.o,rfl,rfl,rfl,rfl⟩⟩
  ·obtain rfl:i=ps.length:=by omega
   obtain⟨h8,h7,h9,hf,he⟩:=h2.o wr hP.o.below;have m0:=aj hP.o.out 0;have m1:=aj hP.o.out 1;have gb:Hid ((#[.int .i64 k,.slice B ps.length e]:Array Value).all (·.oneCell')=true):=by simp [Hid,Value.oneCell']
   have g7:¬(ps.length:Int) < (ps.length:Int):=by omega
   have hQ:=h_ he;have hm:=h_ h8;clear hlt hi h8 h7 h9 hf he;go_wp2_with(refine wpList_store_rowTo rfl _ _ _ rfl rfl (w.heap.size+1+1) #[.int .i64 k,.slice B ps.length e] rfl rfl 69 cz hQ.o lq rfl gb.o ?_);refine bodyPost_ret (cv rfl _ _ (w.heap.size+1+1) 69 #[.int .i64 k,.slice B ps.length e] (0,0) _ rfl (bh hQ.o) Tryz.underlying69 rfl lq) rfl ?_;have hL:dtL cs ws ps ps.length=ps.map (dtT cs ws):=by unfold dtL;rw [List.take_length]
   refine⟨(k,B,ps.length,e,true),rfl,⟨fun _=>rfl,fun _=>Dv.1 hG.o⟩,below_setRow hm.o (by omega) _,(fun a ha=>by have:=(hP.o.own.lt a.block (by have g2:B=some a:=ha;rw [g2];rfl)).1;have:=hX.o;omega),.inl ⟨Dv.1 hG.o,rfl,?_⟩⟩;rw [←hL];exact C7 (hP.o.own.setRow (by omega) _)
end
end Go.Proofs.YtcldpfhpkbeaiadGreat
