/- A part of the proof of FsMounts. No condition of ours. -/
import Derived.Test.YtcldpfhpkbeaiadGreatFsMounts36
import Derived.Test.YtcldpfhpkbeaiadGreatFsMounts30
import Derived.Laws.EntriesVeiled
set_option maxRecDepth 100000
set_option maxHeartbeats 4000000
namespace Go.Proofs.YtcldpfhpkbeaiadGreat
section
open Go.RowKit
structure RpK(b:Nat)(cs:List ByteArray)(m:List aa×List Int)(fr:List Int)(os:List OpD)(z t:Int)(on:Nat)(w:World)(H:Nat)(bx:Array Value)(tE:TypeId)(A:Option Addr)(n c:Nat)(L:List bz)(W:World)(v:FsV):Prop where
 s:RpS b cs m fr os z t on w W v
 box:W.heap[H]?=some (.cells bx tE (0,0))
 rows:ab W H A n c bz.cells 4 L
 nb:b <H
 far:da A n b
section
variable {b:Nat} {cs:List ByteArray} {m:List aa×List Int} {fr:List Int} {os:List OpD} {z t:Int} {on:Nat} {w W W' w2:World} {H:Nat} {bx:Array Value} {tE:TypeId} {A:Option Addr} {n c:Nat} {L:List bz} {v:FsV}
theorem RpK.go(h:RpK b cs m fr os z t on w H bx tE A n c L W v)(hb:Below W.heap.size W W'):RpK b cs m fr os z t on w H bx tE A n c L W' v:=
 {s:=h.s.go hb,box:=ah h.box (ag h.box) hb,rows:=h.rows.below (hb.mono (Nat.le_of_lt (ag h.box))),nb:=h.nb,far:=h.far}
theorem RpK.map(h:RpK b cs m fr os z t on w H bx tE A n c L W v)(hb:Below W.heap.size W w2){D D':Option Addr}{q d q' d':Nat}{X:List aa}{Y:List Int}(hr:ab w2 w2.heap.size D q d aa.cells 2 X)(hr':ab w2 w2.heap.size D' q' d' (fun z=>[.int .i64 z]) 1 Y)(hX:X.length=48)(hY:Y.length=48):∃v',RpK b cs (X,Y) fr os z t on w H bx tE A n c L ((w2.setCell ⟨b,2,none⟩ (.slice D q d)).setCell ⟨b,3,none⟩ (.slice D' q' d')) v':=by
 obtain⟨v',hv⟩:=h.s.map hb hr hr' hX hY;have h2:=h.go hb;have h0:H≠b:=by have:=h.nb;omega
 exact⟨v',{s:=hv,box:=cp (a:=⟨b,3,none⟩) (cp (a:=⟨b,2,none⟩) h2.box h0) h0,rows:=(h2.rows.far_set h.far 2 _).far_set h.far 3 _,nb:=h.nb,far:=h.far}⟩
end
theorem g0k(b:Nat)(cs:List ByteArray)(m0:List aa×List Int)(fr:List Int)(os:List OpD)(v0:FsV)(cell:Int)(A:Option Addr)(n c:Nat)(last:Bool)(L:List bz)(w:World)(h:FsT b cs [] m0.1 m0.2 fr os v0 w)(hoA:v0.oA=none)(hfA:v0.fA=none)(hr:ab w w.heap.size A n c bz.cells 4 L)(hfar:da A n b):Calls Tryz.prog 12 #[.pointer (some ⟨b,0,none⟩),.agg #[.int .i64 cell,.slice A n c,.bool last]] w (xt b cs (ft cell 0 L m0) fr os v0.ser v0.tur v0.on w):=by
 have hp:=hr.len;subst hp;have hs:(L.length:Int)≤9223372036854775807:=by have h1:=hr.le;have h2:=hr.top;unfold maxLen at h2;omega
 have hn:=h.lt;obtain⟨wa,hc⟩:∃wa,wa=w.alloc (.cells #[.int .i64 cell,.slice A L.length c,.bool last] 58):=⟨_,rfl⟩;have hd:Below w.heap.size w wa:=by rw [hc];exact br.alloc ler _
 have hk:wa.heap[w.heap.size]?=some (.cells #[.int .i64 cell,.slice A L.length c,.bool last] 58 (0,0)):=by rw [hc];exact A_ w _
 have I0:Hid (RpK b cs m0 fr os v0.ser v0.tur v0.on w w.heap.size #[.int .i64 cell,.slice A L.length c,.bool last] 58 A L.length c L wa v0):=
  {s:= {fs:=h.below hd,below:=hd.mono (by omega),oA:=hoA,fA:=hfA,ser:=rfl,tur:=rfl,on:=rfl},box:=hk,rows:=hr.below hd,nb:=hn,far:=hfar}
 have hj:Hid (∀(E:Int) w',ft cell 0 L m0=none→E≠0→Below b w w'→xt b cs (ft cell 0 L m0) fr os v0.ser v0.tur v0.on w (.returned (.int .i64 E)) w'):=h_ fun E w' h1 h2 h3=>.inr ⟨h1,⟨E,bN h2,rfl⟩,h3⟩
 have hm:Hid (∀m v w',ft cell 0 L m0=some m→RpS b cs m fr os v0.ser v0.tur v0.on w w' v→xt b cs (ft cell 0 L m0) fr os v0.ser v0.tur v0.on w (.returned (.int .i64 0)) w'):=h_ fun m v w' h1 h2=>.inl ⟨m,v,h1,rfl,h2⟩
 generalize xt b cs (ft cell 0 L m0) fr os v0.ser v0.tur v0.on w=PP at*;generalize v0.ser=zs at*;generalize v0.tur=ts at*;generalize v0.on=ons at*;have hh:=h_ hc;clear h hr hfar hd hk hoA hfA hc;go_enter Tryz.func12,Tryz.ntmps12;go_wp2;rw [←hh.o];clear hh;go_loopw [4,10] (fun v4 v10 wr=>∃(i:Nat) (m:List aa×List Int) (v:FsV),i≤L.length∧v4= .int .i64 0∧v10= .int .i64 i∧Hid (RpK b cs m fr os zs ts ons w w.heap.size #[.int .i64 cell,.slice A L.length c,.bool last] 58 A L.length c L wr v)∧Hid (ft cell 0 L m0=ft cell i (L.drop i) m)) (fun _ v10 _=>L.length- (intOf v10).toNat)
 case atStart=>exact⟨0,m0,v0,zl,rfl,rfl,I0.o,h_ (by rw [List.drop_zero])⟩
 case round=>
  obtain⟨i,m,v,hi,rfl,rfl,HK,HQ⟩:=hrel;rename World=>wr
  clear I0;by_cases hlt:i <L.length
  ·obtain⟨x,hx⟩:∃x,L[i]?=some x:=⟨_,gE hlt⟩;obtain⟨K,h7,nth,ha⟩:=x;obtain⟨ga,o,hA,_,h9⟩:=HK.o.rows.at_ i _ hx;have e0:wr.cell? ⟨ga,o+i*4,none⟩=some (.int .i64 K):=by simpa using h9 0 _ rfl
   have e1:wr.cell? ⟨ga,o+i*4+1,none⟩=some (.int .i64 h7):=h9 1 _ rfl;have e2:wr.cell? ⟨ga,o+i*4+2,none⟩=some (.int .i64 nth):=h9 2 _ rfl;have e3:wr.cell? ⟨ga,o+i*4+3,none⟩=some (.string ha):=h9 3 _ rfl;subst hA;have hq:(i:Int) < (L.length:Int):=by omega
   have K1:=h_ (HK.o.go (br.alloc ler (.cells #[.int .i64 K,.int .i64 h7,.int .i64 nth,.string ha] 85)));have he:=A_ wr (.cells #[.int .i64 K,.int .i64 h7,.int .i64 nth,.string ha] 85);have f0:=rc0 he;have f1:=rc1 he;have a2:=rc2 K1.o.s.fs.box;have a3:=rc3 K1.o.s.fs.box;have a4:=rc0 K1.o.box;have HX:=h_ hx;clear h9 he hx;by_cases hK2:K=2
   ·subst hK2;go_wp2;generalize wr.alloc (.cells #[.int .i64 2,.int .i64 h7,.int .i64 nth,.string ha] 85)=w1 at*;have HC:=h_ (U4 (d0a v.aA v.an v.ac m.1 v.gA v.gn v.gc m.2 h7 cell i w1.drew (K1.o.go br.drew).s.fs.ra (K1.o.go br.drew).s.fs.rg));by_cases hE:jg m.1 m.2 h7 ⟨cell,i⟩=0
    ·obtain⟨h5,h6⟩:=Oh hE;have hg:=h_ (ux (cell:=cell) (m:=m) HX.o (by unfold im;rw [if_pos rfl];exact if_pos hE));rw [hE]at HC;generalize n7 m.1 m.2 h7 ⟨cell,i⟩=X at*;generalize n8 m.1 m.2 h7 ⟨cell,i⟩=Y at*;have H5:Hid (X.length=48∧Y.length=48):=⟨h5,h6⟩;clear hE h5 h6;go_region_law(refine eh rfl 26 rfl #[.agg #[.slice v.aA v.an v.ac,.slice v.gA v.gn v.gc],.int .i64 h7,.agg #[.int .i64 cell,.int .i64 i]] (fun z:Option Addr×Nat×Nat×Option Addr×Nat×Nat=>Value.tuple #[.agg #[.slice z.1 z.2.1 z.2.2.1,.slice z.2.2.2.1 z.2.2.2.2.1 z.2.2.2.2.2],.int .i64 0]) (by simp [go_sem]) HC.o ?_;rintro⟨D,q,d,D',q',d'⟩ w2 ⟨h2,h3,h4⟩;have h0:=(K1.o.go (br.drew.trans h4)).s.fs.box;have b2:=aj h0 2;have b3:=aj h0 3;have c2:=ak h0 2;have c3:=ak h0 3)
     all_goals
      obtain⟨v',h8⟩:=K1.o.map (br.drew.trans h4) h2 h3 H5.o.1 H5.o.2;have hf:=h_ h8;clear h8 f0 f1 a2 a3 a4 h2 h3 h4 h0 HC;go_wp2;go_roundw
      case rel=>exact⟨i+1,(X,Y),v',by omega,rfl,by go_num,hf.o,h_ (by rw [HQ.o,hg.o])⟩
      case measure=>simp [intOf];omega
    ·have HB:=h_ (fun w'=>hj.o (jg m.1 m.2 h7 ⟨cell,i⟩) w' (by rw [HQ.o,Bv HX.o (by unfold im;rw [if_pos rfl];exact if_neg hE)]) hE);generalize jg m.1 m.2 h7 ⟨cell,i⟩=E at*;have g1:(E !=0)=true:=bN hE;go_region_law(refine eh rfl 26 rfl #[.agg #[.slice v.aA v.an v.ac,.slice v.gA v.gn v.gc],.int .i64 h7,.agg #[.int .i64 cell,.int .i64 i]] (fun z:Option Addr×Nat×Nat×Option Addr×Nat×Nat=>Value.tuple #[.agg #[.slice z.1 z.2.1 z.2.2.1,.slice z.2.2.2.1 z.2.2.2.2.1 z.2.2.2.2.2],.int .i64 E]) (by simp [go_sem]) HC.o ?_;rintro⟨D,q,d,D',q',d'⟩ w2 ⟨h2,h3,h4⟩;have h0:=(K1.o.go (br.drew.trans h4)).s.fs.box;have b2:=aj h0 2;have b3:=aj h0 3;have c2:=ak h0 2;have c3:=ak h0 3)
     all_goals
      have HZ:=HB.o _ (K1.o.s.bad (br.drew.trans h4) (.slice D q d) (.slice D' q' d'));clear f0 f1 a2 a3 a4 h2 h3 h4 h0 HC;go_wp2
      first|exact HZ|(go_ret;exact HZ)|(go_ret2;exact HZ)
   ·by_cases hK3:K=3
    ·subst hK3;clear hK2;go_wp2;generalize wr.alloc (.cells #[.int .i64 3,.int .i64 h7,.int .i64 nth,.string ha] 85)=w1 at*;have HC:=h_ (U4 (t0p v.aA v.an v.ac m.1 v.gA v.gn v.gc m.2 h7 w1.drew (K1.o.go br.drew).s.fs.ra (K1.o.go br.drew).s.fs.rg));by_cases hE:iu m.1 m.2 h7=0
     ·obtain⟨h5,h6⟩:=Wn hE;have hg:=h_ (ux (cell:=cell) (m:=m) HX.o (by unfold im;rw [if_neg (show ¬((3:Int)=2) by decide),if_pos rfl];exact if_pos hE));rw [hE]at HC;generalize nz m.1 m.2 h7=X at*;generalize o6 m.1 m.2 h7=Y at*;have H5:Hid (X.length=48∧Y.length=48):=⟨h5,h6⟩;clear hE h5 h6;go_region_law(refine eh rfl 27 rfl #[.agg #[.slice v.aA v.an v.ac,.slice v.gA v.gn v.gc],.int .i64 h7] (fun z:Option Addr×Nat×Nat×Option Addr×Nat×Nat=>Value.tuple #[.agg #[.slice z.1 z.2.1 z.2.2.1,.slice z.2.2.2.1 z.2.2.2.2.1 z.2.2.2.2.2],.int .i64 0]) (by simp [go_sem]) HC.o ?_;rintro⟨D,q,d,D',q',d'⟩ w2 ⟨h2,h3,h4⟩;have h0:=(K1.o.go (br.drew.trans h4)).s.fs.box;have b2:=aj h0 2;have b3:=aj h0 3;have c2:=ak h0 2;have c3:=ak h0 3)
      all_goals
       obtain⟨v',h8⟩:=K1.o.map (br.drew.trans h4) h2 h3 H5.o.1 H5.o.2;have hf:=h_ h8;clear h8 f0 f1 a2 a3 a4 h2 h3 h4 h0 HC;go_wp2;go_roundw
       case rel=>exact⟨i+1,(X,Y),v',by omega,rfl,by go_num,hf.o,h_ (by rw [HQ.o,hg.o])⟩
       case measure=>simp [intOf];omega
     ·have HB:=h_ (fun w'=>hj.o (iu m.1 m.2 h7) w' (by rw [HQ.o,Bv HX.o (by unfold im;rw [if_neg (show ¬((3:Int)=2) by decide),if_pos rfl];exact if_neg hE)]) hE);generalize iu m.1 m.2 h7=E at*;have g1:(E !=0)=true:=bN hE;go_region_law(refine eh rfl 27 rfl #[.agg #[.slice v.aA v.an v.ac,.slice v.gA v.gn v.gc],.int .i64 h7] (fun z:Option Addr×Nat×Nat×Option Addr×Nat×Nat=>Value.tuple #[.agg #[.slice z.1 z.2.1 z.2.2.1,.slice z.2.2.2.1 z.2.2.2.2.1 z.2.2.2.2.2],.int .i64 E]) (by simp [go_sem]) HC.o ?_;rintro⟨D,q,d,D',q',d'⟩ w2 ⟨h2,h3,h4⟩;have h0:=(K1.o.go (br.drew.trans h4)).s.fs.box;have b2:=aj h0 2;have b3:=aj h0 3;have c2:=ak h0 2;have c3:=ak h0 3)
      all_goals
       have HZ:=HB.o _ (K1.o.s.bad (br.drew.trans h4) (.slice D q d) (.slice D' q' d'));clear f0 f1 a2 a3 a4 h2 h3 h4 h0 HC;go_wp2
       first|exact HZ|(go_ret;exact HZ)|(go_ret2;exact HZ)
    ·have g2:(K==2)=false:=bF hK2;have g3:(K==3)=false:=bF hK3;go_wp2;go_roundw
     case rel=>exact⟨i+1,m,v,by omega,rfl,by go_num,K1.o,h_ (by rw [HQ.o,ux HX.o (by unfold im;rw [if_neg hK2,if_neg hK3])])⟩
     case measure=>simp [intOf];omega
  ·have hq:¬(i:Int) < (L.length:Int):=by omega
   have HZ:=hm.o m v wr (by rw [HQ.o,Q9 (by omega)]) HK.o.s;go_wp2
   first|exact HZ|(go_ret;exact HZ)|(go_ret2;exact HZ)
end
section
open Go.RowKit Go.PlainAid
def ea(cs:List ByteArray)(xs:List aa)(gs:List Int):Prop:=
 ∃s l,vis cs [] xs gs 9 [] 0 []=some (s,l)∧ndK cs [] (xs.getD 0 ⟨0,0⟩)=2∧∀(n:Nat) (p:aa),xs[n]?=some p→p.Cell≠0→n∈s
def xq(b:Nat)(cs:List ByteArray)(xs:List aa)(gs fr:List Int)(os:List OpD)(v:FsV)(w:World)(e:Ending)(w':World):Prop:=
 Below w.heap.size w w'∧((ea cs xs gs∧e= .returned (.int .i64 0)∧FsT b cs [] xs gs fr os v w')∨(¬ea cs xs gs∧e= .returned (.int .i64 18)))
theorem Zb:∀W:World,(zeroValue 91).run Tryz.prog W= .ok (.agg (kh [])) W:=fun W=>by kernel_rfl
theorem q0g(b:Nat)(cs:List ByteArray)(xs:List aa)(gs fr:List Int)(os:List OpD)(v:FsV)(w:World)(h:FsT b cs [] xs gs fr os v w)(hd:au cs []=0)(hx:xs.length=48)(hg:gs.length=48):Calls Tryz.prog 13 #[.pointer (some ⟨b,0,none⟩)] w (xq b cs xs gs fr os v w):=by
 obtain⟨B,hB⟩:∃B:WhB,B=⟨b,w.heap.size,w.heap.size+1,w.heap.size+1+1,w.heap.size⟩:=⟨_,rfl⟩;have hr:=(nj w (.cells #[.pointer (some ⟨b,0,none⟩)] 26) (.cells (kh []) 91) (.cells #[.nilFunc] 92)).2.2;have hh:(((w.alloc (.cells #[.pointer (some ⟨b,0,none⟩)] 26)).alloc (.cells (kh []) 91)).alloc (.cells #[.nilFunc] 92)).heap[w.heap.size+1+1]?=some (.cells #[.nilFunc] 92 (0,0)):=hr;have n0:=aj hh 0;have n1:=ak hh 0;simp only [sA,sC]at n0;have hD:=h.lt;obtain⟨wz,h6⟩:∃wz,wz=((w.alloc (.cells #[.pointer (some ⟨b,0,none⟩)] 26)).alloc (.cells (kh []) 91)).alloc (.cells #[.func (.func 28) #[] #[.pointer (some ⟨w.heap.size,0,none⟩),.pointer (some ⟨w.heap.size+1,0,none⟩),.pointer (some ⟨w.heap.size+1+1,0,none⟩)]] 92):=⟨_,rfl⟩;obtain⟨hs,h5⟩:=vk w (.cells #[.pointer (some ⟨b,0,none⟩)] 26) (.cells (kh []) 91) (.cells #[.func (.func 28) #[] #[.pointer (some ⟨w.heap.size,0,none⟩),.pointer (some ⟨w.heap.size+1,0,none⟩),.pointer (some ⟨w.heap.size+1+1,0,none⟩)]] 92);obtain⟨hk,ha,h8⟩:=nj w (.cells #[.pointer (some ⟨b,0,none⟩)] 26) (.cells (kh []) 91) (.cells #[.func (.func 28) #[] #[.pointer (some ⟨w.heap.size,0,none⟩),.pointer (some ⟨w.heap.size+1,0,none⟩),.pointer (some ⟨w.heap.size+1+1,0,none⟩)]] 92);rw [←h6]at hs h5 hk ha h8
 have SZ:WhS B 26 92 91 cs xs gs fr os v w [] wz:=by
  rw [hB];refine {fs:=h.below h5,below:=h5,fbox:=hk,vbox:=h8,sbox:=ha,los:=by simp only;omega,nb:=by simp only;omega,nf:=by simp only;omega,nv:=by simp only;omega,far:=?_,no:=fun e=>?_,nr:=fun e=>?_}
  ·exact⟨da.of_rows h.rc (by simp only;omega),da.of_rows h.rw' (by simp only;omega),da.of_rows h.ra (by simp only;omega),da.of_rows h.rg (by simp only;omega)⟩
  ·have:=(h.oo.lt _ e).2;simp only at this;omega
  ·have:=(h.of.lt _ e).2;simp only at this;omega
 have z0:wz.cell? ⟨w.heap.size+1+1,0,none⟩=some (.func (.func 28) #[] #[.pointer (some ⟨w.heap.size,0,none⟩),.pointer (some ⟨w.heap.size+1,0,none⟩),.pointer (some ⟨w.heap.size+1+1,0,none⟩)]):=by have:=aj SZ.vbox 0;rw [hB]at this;exact this
 have HB:=h_ hB;have h9:Hid (Calls Tryz.prog 28 #[.int .i64 0,.int .i64 0,.pointer (some ⟨B.fb,0,none⟩),.pointer (some ⟨B.sb,0,none⟩),.pointer (some ⟨B.vb,0,none⟩)] wz (pg B 26 92 91 cs xs gs fr os v w wz (vis cs [] xs gs 9 [] 0 []))):=h_ (Zv B 26 92 91 cs xs gs fr os v w hd hx hg 9 0 rfl [] 0 [] wz (by omega) SZ);have hw:=h_ h6;have hM:=X8;have hz:=Zb;obtain⟨⟨pc,pn⟩,hp⟩:∃p,xs[0]?=some p:=⟨_,gE (by omega)⟩;obtain⟨g,hj⟩:∃g,gs[0]?=some g:=⟨_,gE (by omega)⟩;have h7:xs.getD 0 ⟨0,0⟩=⟨pc,pn⟩:=by rw [gD,hp];rfl
 have hm:Hid (¬ea cs xs gs→∀w',Below w.heap.size w w'→xq b cs xs gs fr os v w (.returned (.int .i64 18)) w'):=h_ fun h1 w' h2=>⟨h2,.inr ⟨h1,rfl⟩⟩
 have hy:Hid (ea cs xs gs→∀w',Below w.heap.size w w'→FsT b cs [] xs gs fr os v w'→xq b cs xs gs fr os v w (.returned (.int .i64 0)) w'):=h_ fun h1 w' h2 h3=>⟨h2,.inl ⟨h1,rfl,h3⟩⟩
 have he:v.an=48:=by rw [←h.ra.len];exact hx
 generalize xq b cs xs gs fr os v w=PP at*;cases hv:vis cs [] xs gs 9 [] 0 []with
 |none=>
  have HC:=h_ (Mh h9.o hv);have HR:=h_ (hm.o (fun⟨s,l,h1,_⟩=>by rw [hv]at h1;cases h1));rw [hB]at HC;clear h hd hx hg hB hs hk ha h8 hh hr hD h5 SZ h9 hm hy hv h7 hp hj he h6;go_enter Tryz.func13,Tryz.ntmps13;go_wp2_with(rw [←hw.o];refine HC.o.mono ?_;rintro e w2 ⟨rfl,hH⟩);have HZ:=HR.o _ hH
  first|exact HZ|(go_ret;exact HZ)|(go_ret2;exact HZ)
 |some r=>
  obtain⟨s,l⟩:=r;have HC:=h_ (Mg h9.o hv);rw [hB]at HC
  have ht:kc cs [] 0 ⟨pc,pn⟩ g:=by
   by_cases h1:kc cs [] 0 ⟨pc,pn⟩ g
   ·exact h1
   ·rw [show(9:Nat)=8+1 from rfl,sf hp hj h1]at hv;cases hv
  have hE:Hid (∀W,FsT b cs [] xs gs fr os v W→Calls Tryz.prog 29 #[.pointer (some ⟨b,0,none⟩),.int .i64 0] W fun e w'=>∃G D q d,e= .returned (.tuple #[.agg #[.int .i64 (ndK cs [] ⟨pc,pn⟩),.int .i64 G,.int .i64 (ndS cs [] ⟨pc,pn⟩),.slice D q d],.int .i64 0])∧Below W.heap.size W w'∧(∀a,D=some a→W.heap.size≤a.block)∧ab w' w'.heap.size D q d aa.cells 2 (pts cs [] ⟨pc,pn⟩)):=h_ fun W hW=>Cu (vt b cs [] xs gs fr os v 0 pc pn g W hW hd hp hj) ⟨ht.1,ht.2.1⟩
  obtain⟨bm,om,hA,_,_⟩:=h.ra.at_ 0 _ hp;have hF:Hid (∀W,FsT b cs [] xs gs fr os v W→W.cell? ⟨b,2,none⟩=some (.slice (some ⟨bm,om,none⟩) v.an v.ac)):=h_ fun W hW=>by rw [←hA];exact aj hW.box 2
  have hI:Hid (∀W (i:Nat) (p:aa),FsT b cs [] xs gs fr os v W→xs[i]?=some p→W.cell? ⟨bm,om+i*2,none⟩=some (.int .i64 p.Cell)∧W.cell? ⟨bm,om+i*2+1,none⟩=some (.int .i64 p.Nth)):=h_ fun W i p hW hpi=>by obtain⟨b2,o2,hu,_,hc⟩:=hW.ra.at_ i _ hpi;rw [hA]at hu;injection hu with hu;injection hu with e1 e2 _;subst e1;subst e2;exact⟨by simpa using hc 0 _ rfl,hc 1 _ rfl⟩
  have hC:Hid (xs.length=v.an∧v.an=48):=h_ ⟨by rw [he];exact hx,he⟩;have hN:(v.an:Int)≤48:=by omega
  have HV:=h_ hv;by_cases hK:ndK cs [] ⟨pc,pn⟩=2
  ·rw [hK]at hE;have hG:Hid ((∀(n:Nat) (p:aa),xs[n]?=some p→p.Cell≠0→n∈s)↔ea cs xs gs):=h_ ⟨fun h1=>⟨s,l,hv,by rw [h7];exact hK,h1⟩,fun⟨s',l',h1,_,h3⟩=>by rw [hv]at h1;injection h1 with h1;injection h1 with h1 _;subst h1;exact h3⟩;generalize ndS cs [] ⟨pc,pn⟩=Sz at*;generalize ea cs xs gs=OK at*;clear h hd hx hg hB hs hk ha h8 hh hr hD h5 SZ h9 hv h7 hp hj he h6 ht hA hK;go_enter Tryz.func13,Tryz.ntmps13
   go_wp2_with(first
   |(go_at_call 29;refine(hE.o _ S2.o.fs).mono ?_;rintro e w3 ⟨G,D,q,d,rfl,hf,_,_⟩;have S3:=h_ ((S2.o.go hf).alloc (.cells #[.int .i64 2,.int .i64 G,.int .i64 Sz,.slice D q d] 67));have d0:=rc0 S3.o.fbox;have d2:=hF.o _ S3.o.fs;clear hf)
   |(rw [←hw.o];refine HC.o.mono ?_;rintro e w2 ⟨rfl,h4,_⟩;have S2:=h_ h4;have d1:=rc0 h4.fbox;clear h4))
   clear n0 n1 z0 d0 d1 d2;go_loopw [30] (fun v30 wr=>∃i:Nat,i≤v.an∧v30= .int .i64 i∧Hid (WhS ⟨b,w.heap.size,w.heap.size+1,w.heap.size+1+1,w.heap.size⟩ 26 92 91 cs xs gs fr os v w s wr)∧Hid (∀(n:Nat) (p:aa),n <i→xs[n]?=some p→p.Cell≠0→n∈s)) (fun v30 _=>v.an- (intOf v30).toNat)
   case atStart=>exact⟨0,zl,rfl,S3.o,h_ (fun n p h=>by omega)⟩
   case round=>
    obtain⟨i,hi,rfl,HS,HG⟩:=hrel;rename World=>wr
    by_cases hlt:i <v.an
    ·obtain⟨⟨qc,qn⟩,hq⟩:∃p,xs[i]?=some p:=⟨_,gE (by rw [hC.o.1];exact hlt)⟩;obtain⟨e0,e1⟩:=hI.o wr i _ HS.o.fs hq;simp only at e0 e1;have hL:i <48:=by have:=hC.o.2;omega
     have hP:(i:Int) <48:=by omega
     have hJ:(i:Int) < (v.an:Int):=by omega
     have S4:=h_ (HS.o.alloc (.cells #[.int .i64 qc,.int .i64 qn] 89))
     have s0:(wr.alloc (.cells #[.int .i64 qc,.int .i64 qn] 89)).cell? ⟨w.heap.size+1,i,none⟩=some (.int .i64 (if i∈s then 1 else 0)):=by have e:=aj S4.o.sbox i;simp only at e;rw [e];exact un hL
     by_cases hq0:qc=0
     ·subst hq0;clear s0;go_wp2;go_roundw
      case rel=>exact⟨i+1,by omega,by go_num,S4.o,h_ (fun n p hn hp h0=>by
 rcases Nat.lt_succ_iff_lt_or_eq.1 hn with hn|rfl
 ·exact HG.o n p hn hp h0
 ·rw [hq]at hp;injection hp with hp;subst hp;exact absurd rfl h0)⟩
      case measure=>simp [intOf];omega
     ·have g1:(qc !=0)=true:=bN hq0;by_cases his:i∈s
      ·rw [if_pos his]at s0;go_wp2;go_roundw
       case rel=>exact⟨i+1,by omega,by go_num,S4.o,h_ (fun n p hn hp h0=>by
 rcases Nat.lt_succ_iff_lt_or_eq.1 hn with hn|rfl
 ·exact HG.o n p hn hp h0
 ·exact his)⟩
       case measure=>simp [intOf];omega
      ·rw [if_neg his]at s0;have HR:=h_ (hm.o (fun h=>his (hG.o.2 h i _ hq hq0)));go_wp2;have HZ:=HR.o _ S4.o.below
       first|exact HZ|(go_ret;exact HZ)|(go_ret2;exact HZ)
    ·have hJ:¬(i:Int) < (v.an:Int):=by omega
     have HR:=h_ (hy.o (hG.o.1 (fun n p hp h0=>HG.o n p (by have h1:=(gS.1 hp).1;have h2:=hC.o.1;omega) hp h0)));go_wp2;have HZ:=HR.o _ HS.o.below HS.o.fs
     first|exact HZ|(go_ret;exact HZ)|(go_ret2;exact HZ)
  ·have HR:=h_ (hm.o (fun⟨s',l',h1,h2,_⟩=>by rw [h7]at h2;exact hK h2));have g1:(ndK cs [] ⟨pc,pn⟩!=2)=true:=bN hK;generalize ndS cs [] ⟨pc,pn⟩=Sz at*;generalize ndK cs [] ⟨pc,pn⟩=K at*;clear h hd hx hg hB hs hk ha h8 hh hr hD h5 SZ h9 hm hy hv h7 hp hj he h6 hA ht hK;go_enter Tryz.func13,Tryz.ntmps13
   go_wp2_with(first
   |(go_at_call 29;refine(hE.o _ S2.o.fs).mono ?_;rintro e w3 ⟨G,D,q,d,rfl,hf,_,_⟩;have S3:=h_ ((S2.o.go hf).alloc (.cells #[.int .i64 K,.int .i64 G,.int .i64 Sz,.slice D q d] 67));have d0:=rc0 S3.o.fbox;have d2:=hF.o _ S3.o.fs;clear hf)
   |(rw [←hw.o];refine HC.o.mono ?_;rintro e w2 ⟨rfl,h4,_⟩;have S2:=h_ h4;have d1:=rc0 h4.fbox;clear h4))
   have HZ:=HR.o _ S3.o.below
   first|exact HZ|(go_ret;exact HZ)|(go_ret2;exact HZ)
end
end Go.Proofs.YtcldpfhpkbeaiadGreat
