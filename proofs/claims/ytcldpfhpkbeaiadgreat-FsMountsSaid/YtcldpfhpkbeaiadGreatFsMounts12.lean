/- A part of the proof of FsMounts. No condition of ours. -/
import Derived.Test.YtcldpfhpkbeaiadGreatFsMounts11
namespace Go.Proofs.YtcldpfhpkbeaiadGreat
section
open Go.RowKit Go.PlainAid
def Dq(s:ByteArray)(p:Nat):ay:=⟨s.extract (p+1) (p+1+(bt s p).toNat),bt s (p+1+(bt s p).toNat)⟩
def rdL(s:ByteArray)(p:Nat):Option (List ay):=
 if s.size≤p then some []else if s.size≤p+(bt s p).toNat+1 then none else(rdL s (p+(bt s p).toNat+2)).map (Dq s p:: ·)
termination_by s.size-p
theorem g0x{s:ByteArray}{p:Nat}(h:s.size≤p):rdL s p=some []:=by rw [rdL,if_pos h]
theorem g0w{s:ByteArray}{p:Nat}(h:p <s.size)(h2:s.size≤p+(bt s p).toNat+1):rdL s p=none:=by rw [rdL,if_neg (by omega),if_pos h2]
theorem g0v{s:ByteArray}{p:Nat}(h2:p+(bt s p).toNat+1 <s.size):rdL s p=(rdL s (p+(bt s p).toNat+2)).map (Dq s p:: ·):=by rw [rdL,if_neg (by omega),if_neg (by omega)]
noncomputable def rdE(s:ByteArray):Int:=match rdL s 0 with|none=>4|some L=>if eu L=0 then 0 else 4
noncomputable def rdR(s:ByteArray):List ay:=match rdL s 0 with|none=>[]|some L=>if eu L=0 then L else []
theorem Qe{s:ByteArray}(h:rdL s 0=none):rdE s=4∧rdR s=[]:=by unfold rdE rdR;rw [h];exact⟨rfl,rfl⟩
theorem Gs{s:ByteArray}{L:List ay}(h:rdL s 0=some L)(hd:eu L≠0):rdE s=4∧rdR s=[]:=by unfold rdE rdR;rw [h];simp only [if_neg hd];exact⟨trivial,trivial⟩
theorem Gr{s:ByteArray}{L:List ay}(h:rdL s 0=some L)(hd:eu L=0):rdE s=0∧rdR s=L:=by unfold rdE rdR;rw [h];simp only [if_pos hd];exact⟨trivial,trivial⟩
theorem d0g(l:List UInt8)(p n:Nat)(h:p+n+1 <l.length):l.take (p+n+2)=l.take p++(l[p]'(by omega)::((l.drop (p+1)).take n++[l[p+1+n]'(by omega)])):=by
 have e1:l.take (p+n+2)=l.take p++(l.drop p).take (n+2):=by rw [show p+n+2=p+(n+2) by omega,List.take_add]
 have e2:(l.drop (p+1)).take (n+1)=(l.drop (p+1)).take n++[l[p+1+n]'(by omega)]:=by rw [List.take_succ_eq_append_getElem (by rw [List.length_drop];omega),List.getElem_drop]
 rw [e1,List.drop_eq_getElem_cons (show p <l.length by omega),List.take_succ_cons,e2]
theorem Rz{s:ByteArray}{k:Nat}(h:k <s.size):UInt8.ofNat (bt s k).toNat=(bl s)[k]'(by rw [m9];exact h):=by
 have e:(bt s k).toNat=(s[k]'h).toNat:=by rw [←get_bt s k h];omega
 rw [e,UInt8.ofNat_toNat];rfl
structure RdL(s:ByteArray)(p:Nat)(L:List ay):Prop where
 par:rdL s 0=(rdL s p).map (L++ ·)
 pre:j7 L=(bl s).take p
 le:p≤s.size
 cnt:L.length≤p
theorem Qh(s:ByteArray):RdL s 0 []:=⟨by cases rdL s 0<;>simp,by simp [j7],zl,zl⟩
theorem RdL.step{s:ByteArray}{p n:Nat}{L:List ay}(h:RdL s p L)(hn:bt s p=(n:Int))(h2:p+n+1 <s.size):RdL s (p+n+2) (L++[⟨s.extract (p+1) (p+1+n),bt s (p+1+n)⟩]):=by
 have hz:(bt s p).toNat=n:=by omega
 have he:Dq s p=⟨s.extract (p+1) (p+1+n),bt s (p+1+n)⟩:=by unfold Dq;rw [hz]
 refine⟨?_,?_,by omega,by have:=h.cnt;simp;omega⟩
 ·rw [h.par,g0v (by rw [hz];exact h2),hz,he];cases rdL s (p+n+2)<;>simp
 ·have hl:(s.extract (p+1) (p+1+n)).size=n:=by rw [ByteArray.size_extract];omega
  unfold j7;rw [List.flatMap_append];have:=h.pre;unfold j7 at this;rw [this,d0g (bl s) p n (by rw [m9];omega)];simp only [List.flatMap_cons,List.flatMap_nil,List.append_nil,xc];congr 1;rw [hl,←Rz (show p <s.size by omega),hz,←Rz (show p+1+n <s.size by omega),Dk,Kz,show p+1+n- (p+1)=n by omega]
theorem RdL.none{s:ByteArray}{p n:Nat}{L:List ay}(h:RdL s p L)(hp:p <s.size)(hn:bt s p=(n:Int))(h2:s.size≤p+n+1):rdE s=4∧rdR s=[]:=by refine Qe ?_;rw [h.par,g0w hp (by omega)];rfl
theorem RdL.last{s:ByteArray}{L:List ay}(h:RdL s s.size L):rdL s 0=some L∧j7 L=bl s:=by
 refine⟨?_,?_⟩
 ·rw [h.par,g0x ler];simp
 ·rw [h.pre,List.take_of_length_le (by rw [m9];exact Nat.le_refl _)]
noncomputable def ptX(cs:List ByteArray)(ws:List ae)(p:aa):ByteArray:=(ubB cs ws p.Cell p.Nth).Text
noncomputable def dtT(cs:List ByteArray)(ws:List ae)(p:aa):ByteArray:=if p.Cell=0 then⟨#[]⟩else(jd (ptX cs ws p)).1
def mp(cs:List ByteArray)(ws:List ae)(n sz:Int)(k:Nat)(p:aa):Prop:=p.Cell=0∨(km cs ws n k p∧(jd (ptX cs ws p)).2=0∧(jd (ptX cs ws p)).1.size=wid sz.toNat k)
def i8(cs:List ByteArray)(ws:List ae)(n sz:Int)(ps:List aa):Prop:=∀(k:Nat) (p:aa),ps[k]?=some p→mp cs ws n sz k p
noncomputable def ndK(cs:List ByteArray)(ws:List ae)(p:aa):Int:=irK (ptX cs ws p)
noncomputable def ndS(cs:List ByteArray)(ws:List ae)(p:aa):Int:=irS (ptX cs ws p)
noncomputable def ndB(cs:List ByteArray)(ws:List ae)(p:aa):List ByteArray:=(pts cs ws p).map (dtT cs ws)
noncomputable def ndT(cs:List ByteArray)(ws:List ae)(p:aa):ByteArray:=mkS (whB (ndS cs ws p).toNat 0 (ndB cs ws p))
def kc(cs:List ByteArray)(ws:List ae)(n:Nat)(p:aa)(g:Int):Prop:=p.Cell≠0∧fw cs ws n p g∧i8 cs ws n (ndS cs ws p) (pts cs ws p)
section
variable {cs:List ByteArray} {ws:List ae} {n:Int} {k:Nat} {p q:aa} {g:Int}
theorem p0d(h:fw cs ws n p g):pp (ptX cs ws p):=by
 have h1:irE (ptX cs ws p)=0:=h.2.2.2.1;unfold irE at h1;split at h1
 ·assumption
 ·cases h1
theorem Da(h:fw cs ws n p g):(ndK cs ws p=1∨ndK cs ws p=2)∧0≤ndS cs ws p∧ndS cs ws p≤4096∧(pts cs ws p).length=npt (ndS cs ws p).toNat∧(pts cs ws p).length≤8:=by
 have hi:=p0d h;obtain⟨a,b,c,d,e⟩:=zn hi;obtain⟨h1,_,_,h4,h5,h6,_⟩:=D5 hi.2.2;have hp:(pts cs ws p).length=(iP (ptX cs ws p) (iN (ptX cs ws p))).length:=congrArg List.length e;have hs:ndS cs ws p=iS (ptX cs ws p):=c;have hk:ndK cs ws p=iK (ptX cs ws p):=a;refine⟨by rw [hk];exact h1,by rw [hs];exact h4,by rw [hs];exact h5,?_,?_⟩
 ·rw [hp,hs];unfold npt;omega
 ·rw [hp];omega
theorem Kh(h:fw cs ws n p g)(hd:i8 cs ws n (ndS cs ws p) (pts cs ws p)):kt (ndS cs ws p).toNat (ndB cs ws p)∧fy (ndS cs ws p) (ndB cs ws p)=0:=by
 obtain⟨_,h2,h3,h4,_⟩:=Da h
 have h1:kt (ndS cs ws p).toNat (ndB cs ws p):=by
  refine⟨by unfold ndB;rw [List.length_map];exact h4,fun i t ht=>?_⟩;unfold ndB at ht;rw [List.getElem?_map]at ht;cases hq:(pts cs ws p)[i]? with
  |none=>rw [hq]at ht;cases ht
  |some q=>
   rw [hq]at ht;injection ht with ht;subst ht;unfold dtT;rcases hd i q hq with h0|⟨_,_,h5⟩
   ·left;rw [if_pos h0];rfl
   ·by_cases h0:q.Cell=0
    ·left;rw [if_pos h0];rfl
    ·right;rw [if_neg h0,h5]
 refine⟨h1,?_⟩;unfold fy;rw [if_neg (by omega),if_pos h1]
end
theorem Wa:∀ {l:List ay} {last:ByteArray},jn last l=0→∀x∈l,gh x=0
 | [],_,_,x,hx=>by simp at hx
 |y::r,last,h,x,hx=>by
  simp only [jn]at h;split at h
  ·rename_i h1;exact absurd h h1
  ·rename_i h1;split at h
   ·rcases List.mem_cons.1 hx with rfl|hx
    ·exact Decidable.of_not_not h1
    ·exact Wa h x hx
   ·cases h
theorem Bx{s:ByteArray}:(rdR s).length≤24∧∀x∈rdR s,je x.Name=0∧0≤x.Ino∧x.Ino≤47:=by
 cases h:rdL s 0 with
 |none=>rw [(Qe h).2];exact⟨zl,fun x hx=>by simp at hx⟩
 |some L=>
  by_cases hd:eu L=0
  ·rw [(Gr h hd).2];have hl:¬24 <L.length:=fun h2=>by rw [Kd h2]at hd;cases hd
   exact⟨by omega,fun x hx=>K3 (Wa (by rw [←Ke hl];exact hd) x hx)⟩
  ·rw [(Gs h hd).2];exact⟨zl,fun x hx=>by simp at hx⟩
structure be where
 Path:List UInt8
 Kind:Int
 Text:ByteArray
def be.cells(x:be):List Value:=[.string (mkS (if x.Path=[]then [47]else x.Path)),.int .i64 x.Kind,.string x.Text]
theorem be.len(x:be):x.cells.length=3:=rfl
def fp(v:List Nat→Nat→List UInt8→Option (List Nat×List be))(path:List UInt8):List Nat→List ay→Option (List Nat×List be)
 |seen,[]=>some (seen,[])
 |seen,e::r=>match v seen e.Ino.toNat (path++47::bl e.Name)with
  |none=>none
  |some (s1,l1)=>match fp v path s1 r with
   |none=>none
   |some (s2,l2)=>some (s2,l1++l2)
open Classical in
noncomputable def vis(cs:List ByteArray)(ws:List ae)(xs:List aa)(gs:List Int):Nat→List Nat→Nat→List UInt8→Option (List Nat×List be)
 |0,_,_,_=>none
 |f+1,seen,n,path=>
  if n∈seen then none
  else if kc cs ws n (xs.getD n ⟨0,0⟩) (gs.getD n 0)then
   if ndK cs ws (xs.getD n ⟨0,0⟩)=1 then some (n::seen,[⟨path,1,ndT cs ws (xs.getD n ⟨0,0⟩)⟩])
   else if rdE (ndT cs ws (xs.getD n ⟨0,0⟩))=0 then
    match fp (vis cs ws xs gs f) path (n::seen) (rdR (ndT cs ws (xs.getD n ⟨0,0⟩)))with
    |none=>none
    |some (s,l)=>some (s,⟨path,ndK cs ws (xs.getD n ⟨0,0⟩),⟨#[]⟩⟩::l)
   else none
  else none
section
variable {cs:List ByteArray} {ws:List ae} {xs:List aa} {gs:List Int} {f n:Nat} {seen:List Nat} {path:List UInt8} {p:aa} {g:Int}
theorem uc:vis cs ws xs gs 0 seen n path=none:=by unfold vis;rfl
theorem Fp(h:n∈seen):vis cs ws xs gs (f+1) seen n path=none:=by unfold vis;rw [if_pos h]
theorem sf(hp:xs[n]?=some p)(hg:gs[n]?=some g)(h:¬kc cs ws n p g):vis cs ws xs gs (f+1) seen n path=none:=by unfold vis;rw [gD,gD,hp,hg,Option.getD_some,Option.getD_some,if_neg h];split<;>rfl
theorem Fr(hp:xs[n]?=some p)(hg:gs[n]?=some g)(h0:n∉seen)(h:kc cs ws n p g)(h1:ndK cs ws p=1):vis cs ws xs gs (f+1) seen n path=some (n::seen,[⟨path,1,ndT cs ws p⟩]):=by unfold vis;rw [gD,gD,hp,hg,Option.getD_some,Option.getD_some,if_neg h0,if_pos h,if_pos h1]
theorem Fq(hp:xs[n]?=some p)(hg:gs[n]?=some g)(h1:ndK cs ws p≠1)(h2:rdE (ndT cs ws p)≠0):vis cs ws xs gs (f+1) seen n path=none:=by
 unfold vis;rw [gD,gD,hp,hg,Option.getD_some,Option.getD_some,if_neg h1,if_neg h2];split
 ·rfl
 ·split<;>rfl
theorem a0a(hp:xs[n]?=some p)(hg:gs[n]?=some g)(h0:n∉seen)(h:kc cs ws n p g)(h1:ndK cs ws p≠1)(h2:rdE (ndT cs ws p)=0):
 vis cs ws xs gs (f+1) seen n path=match fp (vis cs ws xs gs f) path (n::seen) (rdR (ndT cs ws p))with
  |none=>none
  |some (s,l)=>some (s,⟨path,ndK cs ws p,⟨#[]⟩⟩::l):=by
 conv=>lhs;unfold vis
 rw [gD,gD,hp,hg,Option.getD_some,Option.getD_some,if_neg h0,if_pos h,if_neg h1,if_pos h2]
end
end
section
open Go.RowKit
def da(A:Option Addr)(n g:Nat):Prop:=∀a,A=some a→0 <n→a.block≠g
section
variable {α:Type} {w w':World} {B n c k g:Nat} {A:Option Addr} {enc:α→List Value} {xs:List α}
theorem da.none(n g:Nat):da Option.none n g:=fun _ h=>by cases h
theorem ab.far_keep(h:ab w B A n c enc k xs)(hk:∀b,(∃o,A=some ⟨b,o,Option.none⟩∧0 <n)→b <B→w'.heap[b]?=w.heap[b]?):ab w' B A n c enc k xs:=
 ⟨h.len,h.le,h.top,fun i x hx=>by
   obtain⟨b,o,e,hb,hc⟩:=h.at_ i x hx
   have hn:0 <n:=by have:=(gS.1 hx).1;have:=h.len;omega
   exact⟨b,o,e,hb,fun j u hu=>by rw [World.cell?_of_block (w:=w) (a:=⟨b,o+i*k+j,Option.none⟩) (hk b ⟨o,e,hn⟩ hb)];exact hc j u hu⟩⟩
theorem ab.far_set(h:ab w B A n c enc k xs)(hf:da A n g)(j:Nat)(v:Value):ab (w.setCell ⟨g,j,Option.none⟩ v) B A n c enc k xs:=
 h.far_keep fun _ ⟨_,e,hn⟩ _=>Below.heap_setCell _ _ _ _ (hf _ e hn)
theorem ab.far_small(h:ab w B A n c enc k xs){cs:Array Value}{t:TypeId}{fr:Nat×Nat}(hb:w.heap[g]?=some (.cells cs t fr))(hk:∀x,(enc x).length=k)(hk0:0 <k)(hlt:cs.size≤(n-1)*k)(h0:0 <n):da A n g:=fun a ha _ e=>by have hl:=h.len;obtain⟨x,hx⟩:∃x,xs[n-1]?=some x:=⟨_,gE (by omega)⟩;obtain⟨b,o,e2,_,hc⟩:=h.at_ (n-1) x hx;rw [e2]at ha;injection ha with ha;subst ha;have e:b=g:=e;subst e;obtain⟨u,hu⟩:∃u,(enc x)[0]?=some u:=⟨_,gE (by rw [hk];exact hk0)⟩;have:=hc 0 u hu;rw [aj hb,Array.getElem?_eq_none (by omega)]at this;cases this
theorem da.of_rows(h:ab w B A n c enc k xs)(hg:B≤g):da A n g:=fun a ha hn e=>by have hl:=h.len;obtain⟨x,hx⟩:∃x,xs[0]?=some x:=⟨_,gE (by omega)⟩;obtain⟨b,o,e2,hb,_⟩:=h.at_ 0 x hx;rw [e2]at ha;injection ha with ha;subst ha;have e:b=g:=e;omega
theorem da.of_new(h:∀a,A=some a→B≤a.block)(hg:g <B):da A n g:=fun a ha _ e=>by have:=h a ha;omega
end
structure FsV where
 cA:Option Addr
 cn:Nat
 cc:Nat
 wA:Option Addr
 wn:Nat
 wc:Nat
 aA:Option Addr
 an:Nat
 ac:Nat
 gA:Option Addr
 gn:Nat
 gc:Nat
 ser:Int
 tur:Int
 fA:Option Addr
 fn:Nat
 fc:Nat
 oA:Option Addr
 on:Nat
 oc:Nat
abbrev FsV.cells(v:FsV):Array Value:= #[.slice v.cA v.cn v.cc,.slice v.wA v.wn v.wc,.slice v.aA v.an v.ac,.slice v.gA v.gn v.gc,.int .i64 v.ser,.int .i64 v.tur,.slice v.fA v.fn v.fc,.slice v.oA v.on v.oc]
structure xx(v:FsV)(g:Nat):Prop where
 c:da v.cA v.cn g
 w:da v.wA v.wn g
 a:da v.aA v.an g
 g:da v.gA v.gn g
structure ef(t:TypeId)(b:Nat)(cs:List ByteArray)(ws:List ae)(xs:List aa)(gs fr:List Int)(os:List OpD)(v:FsV)(W:World):Prop where
 box:W.heap[b]?=some (.cells v.cells t (0,0))
 rc:ab W W.heap.size v.cA v.cn v.cc (fun z=>[.string z]) 1 cs
 rw':ab W W.heap.size v.wA v.wn v.wc ae.cells 2 ws
 ra:ab W W.heap.size v.aA v.an v.ac aa.cells 2 xs
 rg:ab W W.heap.size v.gA v.gn v.gc (fun z=>[.int .i64 z]) 1 gs
 of:af W (b+1) 1 (.slice v.fA v.fn v.fc) v.fn (fr.map (Value.int .i64))
 oo:af W (b+1) 3 (.slice v.oA v.on v.oc) v.on (os.flatMap OpD.cells)
 nb:xx v b
 no:∀g,(Value.slice v.oA v.on v.oc).ownBlock=some g→xx v g
 nf:∀g,(Value.slice v.fA v.fn v.fc).ownBlock=some g→xx v g∧(Value.slice v.oA v.on v.oc).ownBlock≠some g
section
variable {t:TypeId} {b:Nat} {cs:List ByteArray} {ws:List ae} {xs:List aa} {gs fr:List Int} {os:List OpD} {v:FsV} {W W':World}
theorem ef.lt(h:ef t b cs ws xs gs fr os v W):b <W.heap.size:=ag h.box
theorem ef.below(h:ef t b cs ws xs gs fr os v W)(hb:Below W.heap.size W W'):ef t b cs ws xs gs fr os v W':=
 {box:=ah h.box h.lt hb,rc:=(h.rc.below hb).more hb.size,rw':=(h.rw'.below hb).more hb.size,ra:=(h.ra.below hb).more hb.size,rg:=(h.rg.below hb).more hb.size
  of:=h.of.fresh_below hb,oo:=h.oo.fresh_below hb,nb:=h.nb,no:=h.no,nf:=h.nf}
theorem ef.alloc(h:ef t b cs ws xs gs fr os v W)(o:Obj):ef t b cs ws xs gs fr os v (W.alloc o):=h.below (br.alloc ler o)
theorem ef.drew(h:ef t b cs ws xs gs fr os v W):ef t b cs ws xs gs fr os v W.drew:=h.below (br.drew)
theorem ef.other(h:ef t b cs ws xs gs fr os v W){g:Nat}(hg:g≠b)(hf:xx v g)(ho:(Value.slice v.oA v.on v.oc).ownBlock≠some g)(hr:(Value.slice v.fA v.fn v.fc).ownBlock≠some g)(j:Nat)(u:Value):ef t b cs ws xs gs fr os v (W.setCell ⟨g,j,none⟩ u):=
 {box:=cp h.box (fun e=>hg e.symm),rc:=(h.rc.far_set hf.c j u).more (by simp [World.setCell]),rw':=(h.rw'.far_set hf.w j u).more (by simp [World.setCell]),ra:=(h.ra.far_set hf.a j u).more (by simp [World.setCell]),rg:=(h.rg.far_set hf.g j u).more (by simp [World.setCell])
  of:=h.of.setOther hr u,oo:=h.oo.setOther ho u,nb:=h.nb,no:=h.no,nf:=h.nf}
theorem ef.rows_set(h:ef t b cs ws xs gs fr os v W)(j:Nat)(u:Value):ab (W.setCell ⟨b,j,none⟩ u) W.heap.size v.cA v.cn v.cc (fun z=>[.string z]) 1 cs∧ab (W.setCell ⟨b,j,none⟩ u) W.heap.size v.wA v.wn v.wc ae.cells 2 ws∧ab (W.setCell ⟨b,j,none⟩ u) W.heap.size v.aA v.an v.ac aa.cells 2 xs∧ab (W.setCell ⟨b,j,none⟩ u) W.heap.size v.gA v.gn v.gc (fun z=>[.int .i64 z]) 1 gs∧af (W.setCell ⟨b,j,none⟩ u) (b+1) 1 (.slice v.fA v.fn v.fc) v.fn (fr.map (Value.int .i64))∧af (W.setCell ⟨b,j,none⟩ u) (b+1) 3 (.slice v.oA v.on v.oc) v.on (os.flatMap OpD.cells):=
 ⟨h.rc.far_set h.nb.c j u,h.rw'.far_set h.nb.w j u,h.ra.far_set h.nb.a j u,h.rg.far_set h.nb.g j u,
   h.of.setOther (fun e=>by have h1:b+1≤b:=(h.of.lt _ e).1;omega) u,h.oo.setOther (fun e=>by have h1:b+1≤b:=(h.oo.lt _ e).1;omega) u⟩
theorem ef.disk(h:ef t b cs ws xs gs fr os v W){cA wA:Option Addr}{cn cc wn wc:Nat}{cs':List ByteArray}{ws':List ae}(hc:ab W W.heap.size cA cn cc (fun z=>[.string z]) 1 cs')(hw:ab W W.heap.size wA wn wc ae.cells 2 ws')(hfar:∀g,g=b∨(Value.slice v.oA v.on v.oc).ownBlock=some g∨(Value.slice v.fA v.fn v.fc).ownBlock=some g→da cA cn g∧da wA wn g):ef t b cs' ws' xs gs fr os {v with cA:=cA,cn:=cn,cc:=cc,wA:=wA,wn:=wn,wc:=wc} ((W.setCell ⟨b,0,none⟩ (.slice cA cn cc)).setCell ⟨b,1,none⟩ (.slice wA wn wc)):=by
 have hb:=b9 (j:=1) (v:=.slice wA wn wc) (b9 (j:=0) (v:=.slice cA cn cc) h.box);obtain⟨_,_,r3,r4,r5,r6⟩:=h.rows_set 0 (.slice cA cn cc);have hs:((W.setCell ⟨b,0,none⟩ (.slice cA cn cc)).setCell ⟨b,1,none⟩ (.slice wA wn wc)).heap.size=W.heap.size:=by simp [World.setCell]
 obtain⟨f1,f2⟩:=hfar b (.inl rfl);refine {box:=by simpa [FsV.cells]using hb,rc:=?_,rw':=?_,ra:=?_,rg:=?_,of:=?_,oo:=?_,nb:=⟨f1,f2,h.nb.a,h.nb.g⟩,no:=fun g hg=>?_,nf:=fun g hg=>?_}
 ·rw [hs];exact(hc.far_set f1 _ _).far_set f1 _ _
 ·rw [hs];exact(hw.far_set f2 _ _).far_set f2 _ _
 ·rw [hs];exact r3.far_set h.nb.a _ _
 ·rw [hs];exact r4.far_set h.nb.g _ _
 ·exact r5.setOther (fun e=>by have h1:b+1≤b:=(h.of.lt _ e).1;omega) _
 ·exact r6.setOther (fun e=>by have h1:b+1≤b:=(h.oo.lt _ e).1;omega) _
 ·obtain⟨q1,q2⟩:=hfar g (.inr (.inl hg));have:=h.no g hg;exact⟨q1,q2,this.a,this.g⟩
 ·obtain⟨q1,q2⟩:=hfar g (.inr (.inr hg));have:=h.nf g hg;exact⟨⟨q1,q2,this.1.a,this.1.g⟩,this.2⟩
theorem ef.map(h:ef t b cs ws xs gs fr os v W){aA gA:Option Addr}{an ac gn gc:Nat}{xs':List aa}{gs':List Int}(ha:ab W W.heap.size aA an ac aa.cells 2 xs')(hg:ab W W.heap.size gA gn gc (fun z=>[.int .i64 z]) 1 gs')(hfar:∀g,g=b∨(Value.slice v.oA v.on v.oc).ownBlock=some g∨(Value.slice v.fA v.fn v.fc).ownBlock=some g→da aA an g∧da gA gn g):ef t b cs ws xs' gs' fr os {v with aA:=aA,an:=an,ac:=ac,gA:=gA,gn:=gn,gc:=gc} ((W.setCell ⟨b,2,none⟩ (.slice aA an ac)).setCell ⟨b,3,none⟩ (.slice gA gn gc)):=by
 have hb:=b9 (j:=3) (v:=.slice gA gn gc) (b9 (j:=2) (v:=.slice aA an ac) h.box);obtain⟨r1,r2,_,_,r5,r6⟩:=h.rows_set 2 (.slice aA an ac);have hs:((W.setCell ⟨b,2,none⟩ (.slice aA an ac)).setCell ⟨b,3,none⟩ (.slice gA gn gc)).heap.size=W.heap.size:=by simp [World.setCell]
 obtain⟨f1,f2⟩:=hfar b (.inl rfl);refine {box:=by simpa [FsV.cells]using hb,rc:=?_,rw':=?_,ra:=?_,rg:=?_,of:=?_,oo:=?_,nb:=⟨h.nb.c,h.nb.w,f1,f2⟩,no:=fun g hg=>?_,nf:=fun g hg=>?_}
 ·rw [hs];exact r1.far_set h.nb.c _ _
 ·rw [hs];exact r2.far_set h.nb.w _ _
 ·rw [hs];exact(ha.far_set f1 _ _).far_set f1 _ _
 ·rw [hs];exact(hg.far_set f2 _ _).far_set f2 _ _
 ·exact r5.setOther (fun e=>by have h1:b+1≤b:=(h.of.lt _ e).1;omega) _
 ·exact r6.setOther (fun e=>by have h1:b+1≤b:=(h.oo.lt _ e).1;omega) _
 ·obtain⟨q1,q2⟩:=hfar g (.inr (.inl hg));have:=h.no g hg;exact⟨this.c,this.w,q1,q2⟩
 ·obtain⟨q1,q2⟩:=hfar g (.inr (.inr hg));have:=h.nf g hg;exact⟨⟨this.1.c,this.1.w,q1,q2⟩,this.2⟩
theorem ef.turn(h:ef t b cs ws xs gs fr os v W)(z:Int):ef t b cs ws xs gs fr os {v with tur:=z} (W.setCell ⟨b,5,none⟩ (.int .i64 z)):=by
 have hb:=b9 (j:=5) (v:=.int .i64 z) h.box;obtain⟨r1,r2,r3,r4,r5,r6⟩:=h.rows_set 5 (.int .i64 z);have hs:(W.setCell ⟨b,5,none⟩ (.int .i64 z)).heap.size=W.heap.size:=by simp [World.setCell]
 exact {box:=by simpa [FsV.cells]using hb,rc:=by rw [hs];exact r1,rw':=by rw [hs];exact r2,ra:=by rw [hs];exact r3,rg:=by rw [hs];exact r4,of:=r5,oo:=r6,nb:=⟨h.nb.c,h.nb.w,h.nb.a,h.nb.g⟩,no:=fun g hg=>⟨(h.no g hg).c,(h.no g hg).w,(h.no g hg).a,(h.no g hg).g⟩,nf:=fun g hg=>⟨⟨(h.nf g hg).1.c,(h.nf g hg).1.w,(h.nf g hg).1.a,(h.nf g hg).1.g⟩,(h.nf g hg).2⟩}
theorem ef.op(h:ef t b cs ws xs gs fr os v W){x:OpD}{A':Option Addr}{c':Nat}(hl:ed W W' (b+1) (Value.slice v.oA v.on v.oc).ownBlock)(ho:af W' (b+1) 3 (.slice A' (v.on+1) c') (v.on+1) (os.flatMap OpD.cells++x.cells))(hn:Value.ownBlock (.slice A' (v.on+1) c')=(Value.slice v.oA v.on v.oc).ownBlock∨∀k,Value.ownBlock (.slice A' (v.on+1) c')=some k→W.heap.size≤k):ef t b cs ws xs gs fr (os++[x]) {v with oA:=A',on:=v.on+1,oc:=c'} (W'.setCell ⟨b,7,none⟩ (.slice A' (v.on+1) c')):=by
 have h4:(Value.slice v.oA v.on v.oc).ownBlock≠some b:=fun e=>by have h1:b+1≤b:=(h.oo.lt _ e).1;omega
 have h5:=b9 (j:=7) (v:=.slice A' (v.on+1) c') (dw h.box hl h4);have hz:=hl.size;have hs:(W'.setCell ⟨b,7,none⟩ (.slice A' (v.on+1) c')).heap.size=W'.heap.size:=by simp [World.setCell]
 have keep:∀ {α:Type} {A:Option Addr} {n c k:Nat} {enc:α→List Value} {ys:List α},ab W W.heap.size A n c enc k ys→(∀g,(Value.slice v.oA v.on v.oc).ownBlock=some g→da A n g)→da A n b→ab (W'.setCell ⟨b,7,none⟩ (.slice A' (v.on+1) c')) W'.heap.size A n c enc k ys:=fun {α A n c k enc ys} r f1 f2=>((r.far_keep (w':=W') fun g ⟨o,e,h0⟩ hg=>hl.grown.block g hg (fun e2=>f1 g e2.symm _ e h0 rfl)).far_set f2 _ _).more hz
 have h3:∀g,Value.ownBlock (.slice A' (v.on+1) c')=some g→xx v g:=fun g hg=>by
  rcases hn with e|e
  ·exact h.no g (e▸hg)
  ·have:=e g hg;exact⟨da.of_rows h.rc this,da.of_rows h.rw' this,da.of_rows h.ra this,da.of_rows h.rg this⟩
 refine {box:=by simpa [FsV.cells]using h5,rc:=?_,rw':=?_,ra:=?_,rg:=?_,of:=?_,oo:=?_,nb:=⟨h.nb.c,h.nb.w,h.nb.a,h.nb.g⟩,no:=fun g hg=>⟨(h3 g hg).c,(h3 g hg).w,(h3 g hg).a,(h3 g hg).g⟩,nf:=fun g hg=>?_}
 ·rw [hs];exact keep h.rc (fun g hg=>(h.no g hg).c) h.nb.c
 ·rw [hs];exact keep h.rw' (fun g hg=>(h.no g hg).w) h.nb.w
 ·rw [hs];exact keep h.ra (fun g hg=>(h.no g hg).a) h.nb.a
 ·rw [hs];exact keep h.rg (fun g hg=>(h.no g hg).g) h.nb.g
 ·refine af.setOther (af.left h.of hl ?_) (fun e=>by have h1:b+1≤b:=(h.of.lt _ e).1;omega) _;cases hf:(Value.slice v.fA v.fn v.fc).ownBlock with
  |none=>exact .inl rfl
  |some g=>right;intro e;exact(h.nf g hf).2 e.symm
 ·rw [List.flatMap_append];exact af.setOther (by simpa using ho) (fun e=>by have h1:b+1≤b:=(ho.lt _ e).1;omega) _
 ·have:=h.nf g hg;refine⟨⟨this.1.c,this.1.w,this.1.a,this.1.g⟩,fun e=>?_⟩;rcases hn with e2|e2
  ·exact this.2 (e2▸e)
  ·have h1:=e2 g e;have h2:=(h.of.lt g hg).2;omega
theorem ef.freeNil(h:ef t b cs ws xs gs fr os v W):ef t b cs ws xs gs [] os {v with fA:=none,fn:=0,fc:=0} (W.setCell ⟨b,6,none⟩ (.slice none 0 0)):=by
 have hb:=b9 (j:=6) (v:=.slice none 0 0) h.box;obtain⟨r1,r2,r3,r4,_,r6⟩:=h.rows_set 6 (.slice none 0 0);have hs:(W.setCell ⟨b,6,none⟩ (.slice none 0 0)).heap.size=W.heap.size:=by simp [World.setCell]
 exact {box:=by simpa [FsV.cells]using hb,rc:=by rw [hs];exact r1,rw':=by rw [hs];exact r2,ra:=by rw [hs];exact r3,rg:=by rw [hs];exact r4,of:=af.nil _ _ _,oo:=r6,nb:=⟨h.nb.c,h.nb.w,h.nb.a,h.nb.g⟩,no:=fun g hg=>⟨(h.no g hg).c,(h.no g hg).w,(h.no g hg).a,(h.no g hg).g⟩,nf:=fun g hg=>by cases hg}
theorem ef.freeAdd(h:ef t b cs ws xs gs fr os v W){x:Int}{A':Option Addr}{c':Nat}(hl:ed W W' (b+1) (Value.slice v.fA v.fn v.fc).ownBlock)(ho:af W' (b+1) 1 (.slice A' (v.fn+1) c') (v.fn+1) (fr.map (Value.int .i64)++[.int .i64 x]))(hn:Value.ownBlock (.slice A' (v.fn+1) c')=(Value.slice v.fA v.fn v.fc).ownBlock∨∀k,Value.ownBlock (.slice A' (v.fn+1) c')=some k→W.heap.size≤k):ef t b cs ws xs gs (fr++[x]) os {v with fA:=A',fn:=v.fn+1,fc:=c'} (W'.setCell ⟨b,6,none⟩ (.slice A' (v.fn+1) c')):=by
 have h2:(Value.slice v.fA v.fn v.fc).ownBlock≠some b:=fun e=>by have h1:b+1≤b:=(h.of.lt _ e).1;omega
 have h3:=b9 (j:=6) (v:=.slice A' (v.fn+1) c') (dw h.box hl h2);have hz:=hl.size;have hs:(W'.setCell ⟨b,6,none⟩ (.slice A' (v.fn+1) c')).heap.size=W'.heap.size:=by simp [World.setCell]
 have keep:∀ {α:Type} {A:Option Addr} {n c k:Nat} {enc:α→List Value} {ys:List α},ab W W.heap.size A n c enc k ys→(∀g,(Value.slice v.fA v.fn v.fc).ownBlock=some g→da A n g)→da A n b→ab (W'.setCell ⟨b,6,none⟩ (.slice A' (v.fn+1) c')) W'.heap.size A n c enc k ys:=fun {α A n c k enc ys} r f1 f2=>((r.far_keep (w':=W') fun g ⟨o,e,h0⟩ hg=>hl.grown.block g hg (fun e2=>f1 g e2.symm _ e h0 rfl)).far_set f2 _ _).more hz
 refine {box:=by simpa [FsV.cells]using h3,rc:=?_,rw':=?_,ra:=?_,rg:=?_,of:=?_,oo:=?_,nb:=⟨h.nb.c,h.nb.w,h.nb.a,h.nb.g⟩,no:=fun g hg=>⟨(h.no g hg).c,(h.no g hg).w,(h.no g hg).a,(h.no g hg).g⟩,nf:=fun g hg=>?_}
 ·rw [hs];exact keep h.rc (fun g hg=>(h.nf g hg).1.c) h.nb.c
 ·rw [hs];exact keep h.rw' (fun g hg=>(h.nf g hg).1.w) h.nb.w
 ·rw [hs];exact keep h.ra (fun g hg=>(h.nf g hg).1.a) h.nb.a
 ·rw [hs];exact keep h.rg (fun g hg=>(h.nf g hg).1.g) h.nb.g
 ·rw [List.map_append];exact af.setOther (by simpa using ho) (fun e=>by have h1:b+1≤b:=(ho.lt _ e).1;omega) _
 ·refine af.setOther (af.left h.oo hl ?_) (fun e=>by have h1:b+1≤b:=(h.oo.lt _ e).1;omega) _;cases hf:(Value.slice v.oA v.on v.oc).ownBlock with
  |none=>exact .inl rfl
  |some g=>right;intro e;exact(h.nf g e.symm).2 hf
 ·rcases hn with e|e
  ·have:=h.nf g (e▸hg);exact⟨⟨this.1.c,this.1.w,this.1.a,this.1.g⟩,this.2⟩
  ·have h1:=e g hg;exact⟨⟨da.of_rows h.rc h1,da.of_rows h.rw' h1,da.of_rows h.ra h1,da.of_rows h.rg h1⟩,fun e2=>by have:=(h.oo.lt g e2).2;omega⟩
end
abbrev FsT(b:Nat)(cs:List ByteArray)(ws:List ae)(xs:List aa)(gs fr:List Int)(os:List OpD)(v:FsV)(W:World):Prop:=ef 55 b cs ws xs gs fr os v W
end
end Go.Proofs.YtcldpfhpkbeaiadGreat
