/- A part of the proof of FsMounts. No condition of ours. -/
import Derived.Test.YtcldpfhpkbeaiadGreatFsMounts02
import Derived.Deep.WholeRow
import Derived.Deep.DeepCutAuto
import Derived.Laws.BitsAllLaws
set_option maxRecDepth 20000
set_option maxHeartbeats 1000000
namespace Go.Proofs.YtcldpfhpkbeaiadGreat
section
open Go.RowKit Go.PlainAid
theorem Mv(f:Nat→Int):∀k,dq f (k+1)=f 0%128+128*dq (fun i=>f (i+1)) k
 |0=>by simp [dq]
 |k+1=>by
  have ih:=Mv f k;have e1:dq f (k+1+1)=dq f (k+1)+(f (k+1)%128)*128^(k+1):=rfl;have e2:dq (fun i=>f (i+1)) (k+1)=dq (fun i=>f (i+1)) k+(f (k+1)%128)*128^k:=rfl;rw [e1,e2,ih,Int.pow_succ,Int.mul_add,←Int.mul_assoc,←Int.mul_assoc]
  have:f (k+1)%128*128^k*128=128*(f (k+1)%128)*128^k:=by rw [Int.mul_comm _ 128,←Int.mul_assoc]
  omega
theorem g0y(f:Nat→Int)(n:Nat):(List.range (n+1)).map f=f 0::(List.range n).map (fun i=>f (i+1)):=by rw [List.range_succ_eq_map];simp [List.map_map,Function.comp_def]
theorem Qk:∀(k g:Nat) (f:Nat→Int),k≤g→(∀j,0≤f j)→(∀j,f j≤255)→(∀j,j <k→128≤f j)→f k <128→(k=0∨f k≠0)→kx g (dq f (k+1))=(List.range (k+1)).map f
 |0,g,f,_,h0,h1,_,h3,_=>by
  have e:dq f (0+1)=f 0:=by have:=h0 0;simp only [dq];simp;omega
  rw [e,Gt _ _ h3];rfl
 |k+1,0,f,hg,_,_,_,_,_=>by omega
 |k+1,g+1,f,hg,h0,h1,h2,h3,h4=>by
  have hs:=Mv f (k+1);have h6:=h2 0 (by omega);have h8:=h1 0;have hb:=(mx (fun i=>f (i+1)) k).1;have hk:1≤f (k+1):=by have:=h0 (k+1);rcases h4 with h|h<;>omega
  have hp:=I3 k;have e2:dq (fun i=>f (i+1)) (k+1)=dq (fun i=>f (i+1)) k+(f (k+1)%128)*128^k:=rfl;have h5:1*128^k≤(f (k+1)%128)*128^k:=Int.mul_le_mul_of_nonneg_right (by omega) (by omega);have h7:1≤dq (fun i=>f (i+1)) (k+1):=by omega
  rw [Gu _ _ (by omega),g0y];congr 1
  ·omega
  ·rw [show dq f (k+1+1)/128=dq (fun i=>f (i+1)) (k+1) by omega];exact Qk k g (fun i=>f (i+1)) (by omega) (fun j=>h0 _) (fun j=>h1 _) (fun j hj=>h2 _ (by omega)) h3 (.inr (by omega))
theorem Jm(f:Nat→Int)(len:Nat)(h0:∀j,0≤f j)(h1:∀j,f j≤255)(h:ce f len=0):k8 (c9 f len)=(List.range (ck f len).toNat).map f∧(ck f len).toNat≤len∧1≤ck f len∧ck f len≤10∧0≤c9 f len:=by
 obtain⟨a1,a2,a3,a4⟩:=wj f len;by_cases e1:cd f len=len
 ·have:=(De e1).1;omega
 ·by_cases e2:(cd f len=9∧1 <f (cd f len))∨(0 <cd f len∧f (cd f len)=0)
  ·have:=(Jp e1 e2).1;omega
  ·obtain⟨_,b2,b3⟩:=Jn e1 e2;rw [b2,b3];refine⟨?_,by omega,by omega,by omega,(mx f _).1⟩;rw [show((cd f len:Int)+1).toNat=cd f len+1 by omega];refine Qk _ 9 f a1 h0 h1 a3 ?_ ?_
   ·by_cases h9:cd f len=9
    ·have:¬1 <f (cd f len):=fun hh=>e2 (.inl ⟨h9,hh⟩)
     omega
    ·exact a4 (by omega) (by omega)
   ·by_cases hz:cd f len=0
    ·exact .inl hz
    ·exact .inr fun hh=>e2 (.inr ⟨by omega,hh⟩)
def seg(s:ByteArray)(a n:Nat):List Int:=(List.range n).map fun i=>bt s (a+i)
theorem d0d(s:ByteArray)(a n:Nat):(seg s a n).length=n:=by simp [seg]
theorem Br(s:ByteArray)(a:Nat):∀m n,seg s a (m+n)=seg s a m++seg s (a+m) n:=by intro m n;unfold seg;rw [List.range_add,List.map_append,List.map_map];congr 1;simp [Function.comp_def,Nat.add_assoc]
theorem d0f(s:ByteArray):seg s 0 s.size=btL s s.size:=by simp [seg,btL]
theorem d0e(s:ByteArray)(a b:Nat)(h:a≤b)(hb:b≤s.size):btL (s.extract a b) (s.extract a b).size=seg s a (b-a):=by rw [mn s a b hb];unfold btL seg;apply List.map_congr_left;intro i hi;rw [List.mem_range]at hi;exact l9 s a b i (by omega) hb
theorem d0c(s:ByteArray)(a n:Nat)(f:Nat→Int)(h:∀i,i <n→f i=bt s (a+i)):(List.range n).map f=seg s a n:=by unfold seg;apply List.map_congr_left;intro i hi;rw [List.mem_range]at hi;exact h i hi
theorem Xs(L:List Int)(i:Nat)(x:Int)(h:L[i]?=some x)(h0:0≤x)(h1:x≤255):bt (strOfNums L) i=x:=by
 have hi:i <L.length:=(gS.1 h).1;have hx:L[i]=x:=(gS.1 h).2;have hs:i < (strOfNums L).size:=by rw [strOfNums_size];exact hi
 have e:(strOfNums L)[i]'hs=UInt8.ofNat x.toNat:=by have:(strOfNums L)[i]'hs=(strOfNums L).data[i]'hs:=rfl;rw [this];simp [strOfNums,hx]
 unfold bt;rw [dif_pos hs,e];simp;omega
def tl(s:ByteArray)(p:Nat):ByteArray:=s.extract p s.size
theorem lx(s:ByteArray)(p:Nat):(tl s p).size=s.size-p:=mn s p s.size ler
theorem ug(s:ByteArray)(p q:Nat):(tl s p).extract q (tl s p).size=tl s (p+q):=by
 unfold tl;rw [ByteArray.extract_extract,←tl,lx];by_cases h:p≤s.size
 ·rw [show min (p+(s.size-p)) s.size=s.size by omega]
 ·apply ByteArray.ext;rw [ByteArray.data_extract,ByteArray.data_extract];apply Array.ext';simp only [Array.toList_extract];rw [show List.extract s.data.toList (p+q) (min (p+(s.size-p)) s.size)=[]from ?_,show List.extract s.data.toList (p+q) s.size=[]from ?_]
  ·simp [List.extract];right;show s.size≤_;omega
  ·simp [List.extract];right;show s.size≤_;omega
def eE(s:ByteArray)(p:Nat):Int:=ce (bt (tl s (p+3))) (tl s (p+3)).size
def eK(s:ByteArray)(p:Nat):Nat:=(ck (bt (tl s (p+3))) (tl s (p+3)).size).toNat
def eN(s:ByteArray)(p:Nat):Nat:=(c9 (bt (tl s (p+3))) (tl s (p+3)).size).toNat
structure jb(s:ByteArray)(p:Nat):Prop where
 four:p+4≤s.size
 num:eE s p=0
 fits:p+3+eK s p+eN s p≤s.size
def ent(s:ByteArray)(p:Nat):bz:=⟨bt s p,bt s (p+1),bt s (p+2),s.extract (p+3+eK s p) (p+3+eK s p+eN s p)⟩
def nxt(s:ByteArray)(p:Nat):Nat:=p+3+eK s p+eN s p
theorem Dp{s:ByteArray}{p:Nat}(h4:p+4≤s.size)(h:eE s p=0):ck (bt (tl s (p+3))) (tl s (p+3)).size=(eK s p:Int)∧c9 (bt (tl s (p+3))) (tl s (p+3)).size=(eN s p:Int)∧1≤eK s p∧eK s p≤10∧p+3+eK s p≤s.size∧k8 (eN s p)=seg s (p+3) (eK s p):=by
 obtain⟨h1,h2,h3,h6,h5⟩:=Jm (bt (tl s (p+3))) (tl s (p+3)).size (fun j=>bt_nonneg _ j) (fun j=>bt_le _ j) h;have hz:=lx s (p+3);have a1:ck (bt (tl s (p+3))) (tl s (p+3)).size=(eK s p:Int):=by unfold eK;omega
 have a2:c9 (bt (tl s (p+3))) (tl s (p+3)).size=(eN s p:Int):=by unfold eN;omega
 have a3:eK s p≤(tl s (p+3)).size:=h2;refine⟨a1,a2,by omega,by omega,by omega,?_⟩;rw [←a2,h1];refine d0c s (p+3) _ _ fun i hi=>?_
 have h0:i <eK s p:=hi;exact l9 s (p+3) s.size i (by omega) ler
theorem Vm{s:ByteArray}{p:Nat}(h:jb s p):lk (bt s p) (bt s (p+1)) (bt s (p+2)) (ent s p).Text=seg s p (nxt s p-p)∧(ent s p).Text.size=eN s p:=by
 have h4:=h.four;have hf:=h.fits;obtain⟨_,_,a3,a4,a5,a6⟩:=Dp h4 h.num
 have hz:(ent s p).Text.size=eN s p:=by show(s.extract _ _).size=_;rw [mn s _ _ hf];omega
 refine⟨?_,hz⟩;unfold lk;have hc:=d0e s (p+3+eK s p) (p+3+eK s p+eN s p) (by omega) hf;rw [show(s.extract (p+3+eK s p) (p+3+eK s p+eN s p))=(ent s p).Text from rfl]at hc;rw [hc,hz,a6];rw [show nxt s p-p=3+(eK s p+eN s p) by unfold nxt;omega,Br s p 3,Br s (p+3),show p+3+eK s p+eN s p- (p+3+eK s p)=eN s p by omega];rfl
def dv(s:ByteArray):Nat→Nat
 |0=>2
 |j+1=>nxt s (dv s j)
def cy(s:ByteArray)(j:Nat):List bz:=(List.range j).map fun i=>ent s (dv s i)
theorem L0(s:ByteArray)(j:Nat):cy s (j+1)=cy s j++[ent s (dv s j)]:=by simp [cy,List.range_succ]
theorem Ym(s:ByteArray)(j:Nat):(cy s j).length=j:=by simp [cy]
theorem Ee(s:ByteArray)(j:Nat):dv s j+3≤dv s (j+1):=by simp only [dv,nxt];omega
theorem Kt(s:ByteArray){i j:Nat}(h:i <j):dv s i+3≤dv s j:=by
 induction h with
 |refl=>exact Ee s i
 |step _ ih=>rename_i m _;have h1:=Ee s m;rw [Nat.succ_eq_add_one];omega
theorem Xv(s:ByteArray)(j:Nat):2+3*j≤dv s j:=by
 induction j with
 |zero=>simp [dv]
 |succ j ih=>have:=Ee s j;omega
theorem Yn(s:ByteArray):∀j,(∀i,i <j→jb s (dv s i))→iw (cy s j)=seg s 2 (dv s j-2)
 |0,_=>rfl
 |j+1,h=>by
  have ih:=Yn s j (fun i hi=>h i (by omega));have h1:=(Vm (h j (by omega))).1;have hg:=Xv s j;have hl:=Ee s j;rw [L0,Y9,ih]
  have e:iw [ent s (dv s j)]=seg s (dv s j) (nxt s (dv s j)-dv s j):=by rw [←h1];simp [iw,ent]
  rw [e];have e2:=Br s 2 (dv s j-2) (dv s (j+1)-dv s j);rw [show dv s j-2+(dv s (j+1)-dv s j)=dv s (j+1)-2 by omega,show 2+(dv s j-2)=dv s j by omega]at e2;exact e2.symm
noncomputable def ny(s:ByteArray)(p:Nat):Int:=ge (bt s p) (bt s (p+1)) (bt s (p+2)) (s.extract (p+3+eK s p) (p+3+eK s p+eN s p))
structure fd(s:ByteArray):Prop where
 lo:2≤s.size
 hi:s.size≤1000
 last:bt s 0≤1
 many:bt s 1≤40
 all:∀j,j < (bt s 1).toNat→jb s (dv s j)∧ny s (dv s j)=0
 end_:dv s (bt s 1).toNat=s.size
open Classical in
noncomputable def brE(s:ByteArray):Int:=if fd s then 0 else 4
open Classical in
noncomputable def brL(s:ByteArray):List bz:=if fd s then cy s (bt s 1).toNat else []
open Classical in
noncomputable def brB(s:ByteArray):Bool:=if fd s then bt s 0==1 else false
theorem Ks{s:ByteArray}(h:¬fd s):brE s=4∧brL s=[]∧brB s=false:=by unfold brE brL brB;simp only [if_neg h,and_self]
theorem xk{s:ByteArray}(h:fd s):brE s=0∧brL s=cy s (bt s 1).toNat∧brB s=(bt s 0==1):=by unfold brE brL brB;simp only [if_pos h,and_self]
theorem X7{l:List bz}:fz l=0↔∀b∈l,ge b.Kind b.Ino b.Nth b.Text=0:=by
 induction l with
 |nil=>simp [fz]
 |cons x r ih=>
  simp only [fz];by_cases h:ge x.Kind x.Ino x.Nth x.Text=0
  ·rw [if_neg (by simp [h]),ih];simp [h]
  ·rw [if_pos h];simp [h]
theorem L7(s:ByteArray)(j:Nat):fz (cy s j)=0↔∀i,i <j→ny s (dv s i)=0:=by
 rw [X7];constructor
 ·intro h i hi;exact h (ent s (dv s i)) (List.mem_map.2 ⟨i,by simpa using hi,rfl⟩)
 ·intro h b hb;obtain⟨i,hi,rfl⟩:=List.mem_map.1 hb;exact h i (by simpa using hi)
theorem Xu{s:ByteArray}{i j:Nat}(h:dv s i=dv s j):i=j:=by
 rcases Nat.lt_trichotomy i j with h1|h1|h1
 ·have:=Kt s h1;omega
 ·exact h1
 ·have:=Kt s h1;omega
theorem u0z{s:ByteArray}{j:Nat}(lo:2≤s.size)(hi:s.size≤1000)(hall:∀i,i <j→jb s (dv s i))(he:dv s j=s.size)(x:Int)(hx:x=if bt s 0=1 then 1 else 0):fd s↔gj (cy s j)=0∧strOfNums (i9 (cy s j) x)=s:=by
 have h1:=Yn s j hall;have h0:=Ym s j;have b0:=bt_nonneg s 0;have b1:=bt_nonneg s 1
 have h3:btL s s.size=bt s 0::bt s 1::seg s 2 (s.size-2):=by rw [←d0f,show s.size=2+(s.size-2) by omega,Br s 0 2];simp [seg,List.range_succ]
 rw [he]at h1;have h4:(iw (cy s j)).length≤998:=by rw [h1,d0d];omega
 constructor
 ·rintro⟨_,_,hl,hm,ha,h2⟩;have hj:(bt s 1).toNat=j:=Xu (h2.trans he.symm);have hc:fz (cy s j)=0:=(L7 s j).2 fun i hi=>(ha i (by omega)).2
  obtain⟨e1,e2⟩:=Eh x (by rw [h0];omega) hc (by omega);refine⟨e1,?_⟩;rw [e2,h0,h1]
  have:(x::(j:Int)::seg s 2 (s.size-2))=btL s s.size:=by
   rw [h3,hx];congr 1
   ·split<;>omega
   ·congr 1;omega
  rw [this];exact Bj s
 ·rintro⟨e1,e2⟩;have hn:¬40 < (cy s j).length:=fun h=>by have:=(Kw x h).1;omega
  have hc:fz (cy s j)=0:=by
   by_cases hc:fz (cy s j)=0
   ·exact hc
   ·have:=(Kx x hn hc rfl).1;omega
  rw [(Eh x hn hc (by omega)).2,h0,h1]at e2;rw [h0]at hn
  have g0:bt s 0=x:=by
   rw [←e2];have:(if bt s 0=1 then(1:Int)else 0)=0∨(if bt s 0=1 then(1:Int)else 0)=1:=by split<;>simp
   exact Xs _ 0 x rfl (by omega) (by omega)
  have g1:bt s 1=j:=by rw [←e2];exact Xs _ 1 _ rfl (by omega) (by omega)
  have hj:(bt s 1).toNat=j:=by omega
  have h5:x≤1:=by rw [hx];split<;>omega
  exact⟨lo,hi,by omega,by omega,fun i hi=>⟨hall i (by omega),(L7 s j).1 hc i (by omega)⟩,by rw [hj];exact he⟩
structure BrI(s:ByteArray)(j p:Nat):Prop where
 pos:p=dv s j
 all:∀i,i <j→jb s (dv s i)∧ny s (dv s i)=0
theorem BrI.start(s:ByteArray):BrI s 0 2:=⟨rfl,fun i h=>by omega⟩
theorem BrI.step{s:ByteArray}{j p:Nat}(h:BrI s j p)(h1:jb s p)(h2:ny s p=0):BrI s (j+1) (p+3+eK s p+eN s p):=by
 obtain⟨rfl,ha⟩:=h;refine⟨rfl,fun i hi=>?_⟩;by_cases e:i=j
 ·subst e;exact⟨h1,h2⟩
 ·exact ha i (by omega)
theorem BrI.not{s:ByteArray}{j p:Nat}(h:BrI s j p)(hj:(j:Int) <bt s 1)(hb:¬(jb s p∧ny s p=0)):¬fd s:=fun k=>by have:=k.all j (by omega);rw [←h.pos]at this;exact hb this
theorem BrI.end_{s:ByteArray}{j p:Nat}(h:BrI s j p)(hj:bt s 1=(j:Int))(hb:p≠s.size):¬fd s:=fun k=>by have:=k.end_;rw [show(bt s 1).toNat=j by omega,←h.pos]at this;exact hb this
theorem BrI.ok{s:ByteArray}{j p:Nat}(h:BrI s j p)(hj:bt s 1=(j:Int))(hb:p=s.size)(h0:2≤s.size)(h1:s.size≤1000)(h2:bt s 0≤1)(h3:bt s 1≤40):fd s:=by
 have e:(bt s 1).toNat=j:=by omega
 exact⟨h0,h1,h2,h3,by rw [e];exact h.all,by rw [e,←h.pos];exact hb⟩
theorem BrI.ents{s:ByteArray}{j p:Nat}(h:BrI s j p):(cy s (j+1)).flatMap bz.cells=(cy s j).flatMap bz.cells++[.int .i64 (bt s p),.int .i64 (bt s (p+1)),.int .i64 (bt s (p+2)),.string (s.extract (p+3+eK s p) (p+3+eK s p+eN s p))]:=by rw [L0,List.flatMap_append,←h.pos];rfl
theorem Vv{s:ByteArray}{p:Nat}(h:eE s p=0):p+4≤s.size:=by obtain⟨_,h2,h3,_,_⟩:=Jm (bt (tl s (p+3))) (tl s (p+3)).size (fun j=>bt_nonneg _ j) (fun j=>bt_le _ j) h;have hz:=lx s (p+3);omega
structure BrJ(s:ByteArray)(j p:Nat):Prop where
 pos:p=dv s j
 all:∀i,i <j→jb s (dv s i)
theorem BrJ.start(s:ByteArray):BrJ s 0 2:=⟨rfl,fun i h=>by omega⟩
theorem BrJ.step{s:ByteArray}{j p:Nat}(h:BrJ s j p)(h1:jb s p):BrJ s (j+1) (p+3+eK s p+eN s p):=by
 obtain⟨rfl,ha⟩:=h;refine⟨rfl,fun i hi=>?_⟩;by_cases e:i=j
 ·subst e;exact h1
 ·exact ha i (by omega)
theorem BrJ.lt{s:ByteArray}{j p:Nat}(h:BrJ s j p):2+3*j≤p:=by rw [h.pos];exact Xv s j
theorem BrJ.not{s:ByteArray}{j p:Nat}(h:BrJ s j p)(hp:p <s.size)(hb:¬(jb s p∧ny s p=0)):¬fd s:=fun k=>by
 have he:=k.end_;rw [h.pos]at hp hb
 have hj:j < (bt s 1).toNat:=by
  rcases Nat.lt_trichotomy j (bt s 1).toNat with h1|h1|h1
  ·exact h1
  ·rw [←h1]at he;omega
  ·have:=Kt s h1;omega
 exact hb (k.all j hj)
theorem BrJ.ents{s:ByteArray}{j p:Nat}(h:BrJ s j p):(cy s (j+1)).flatMap bz.cells=(cy s j).flatMap bz.cells++[.int .i64 (bt s p),.int .i64 (bt s (p+1)),.int .i64 (bt s (p+2)),.string (s.extract (p+3+eK s p) (p+3+eK s p+eN s p))]:=by rw [L0,List.flatMap_append,←h.pos];rfl
theorem BrJ.iff{s:ByteArray}{j p:Nat}(h:BrJ s j p)(lo:2≤s.size)(hi:s.size≤1000)(he:p=s.size)(x:Int)(hx:x=if bt s 0=1 then 1 else 0):fd s↔gj (cy s j)=0∧strOfNums (i9 (cy s j) x)=s:=u0z lo hi h.all (by rw [←h.pos];exact he) x hx
theorem BrJ.many{s:ByteArray}{j p:Nat}(h:BrJ s j p)(he:p=s.size)(k:fd s):(bt s 1).toNat=j:=Xu (k.end_.trans (he.symm.trans h.pos))
theorem Vr{s:ByteArray}{p:Nat}(h:jb s p)(hn:600 <eN s p):¬(jb s p∧ny s p=0):=fun k=>by have h1:=(Vm h).2;have h2:=k.2;unfold ny at h2;have:=Ah h2;have h3:(s.extract (p+3+eK s p) (p+3+eK s p+eN s p)).size=eN s p:=h1;omega
end
section
open Go.RowKit
def gd:List ByteArray→Int
 | []=>0
 |s::r=>if 1024 <s.size then 2 else gd r
def ey(n at_:Int)(z:Nat):Int:=if at_ <0∨n≤at_ then 1 else if 1024 <z then 2 else 0
def fg(n:Int):List ae→Int
 | []=>0
 |p::r=>if ey n p.At p.Text.size≠0 then ey n p.At p.Text.size else fg n r
def au(cs:List ByteArray)(ws:List ae):Int:=
 if cs.length=0∨128 <cs.length then 1 else if gd cs≠0 then 2 else if fg cs.length ws≠0 then fg cs.length ws else if 400 <ws.length then 2 else 0
theorem Dz{α:Type}{l:List α}{k:Nat}{x:α}(h:l[k]?=some x):l.drop k=x::l.drop (k+1):=by
 have hk:k <l.length:=(gS.1 h).1;rw [List.drop_eq_getElem_cons hk];have:l[k]=x:=by have:=gE hk;rw [this]at h;injection h
 rw [this]
theorem Xf{l:List ByteArray}{k:Nat}{x:ByteArray}(h:l[k]?=some x)(hx:1024 <x.size):gd (l.drop k)=2:=by rw [Dz h,gd,if_pos hx]
theorem Xd{l:List ByteArray}{k:Nat}{x:ByteArray}(h:l[k]?=some x)(hx:¬1024 <x.size):gd (l.drop k)=gd (l.drop (k+1)):=by rw [Dz h,gd,if_neg hx]
theorem Xe{l:List ByteArray}{k:Nat}(h:l.length≤k):gd (l.drop k)=0:=by rw [List.drop_eq_nil_of_le h];rfl
theorem qy{n:Int}{l:List ae}{k:Nat}{a:Int}{t:ByteArray}(h:l[k]?=some ⟨a,t⟩)(hx:ey n a t.size≠0):fg n (l.drop k)=ey n a t.size:=by rw [Dz h,fg,if_pos hx]
theorem Ms{n:Int}{l:List ae}{k:Nat}{a:Int}{t:ByteArray}(h:l[k]?=some ⟨a,t⟩)(hx:ey n a t.size=0):fg n (l.drop k)=fg n (l.drop (k+1)):=by rw [Dz h,fg,if_neg (by simp [hx])]
theorem Mt{n:Int}{l:List ae}{k:Nat}(h:l.length≤k):fg n (l.drop k)=0:=by rw [List.drop_eq_nil_of_le h];rfl
theorem Bz{n a:Int}{z:Nat}(h:a <0∨n≤a):ey n a z=1:=if_pos h
theorem Qn{n a:Int}{z:Nat}(h0:0≤a)(h1:a <n)(h:1024 <z):ey n a z=2:=by unfold ey;rw [if_neg (by omega),if_pos h]
theorem Qm{n a:Int}{z:Nat}(h0:0≤a)(h1:a <n)(h:¬1024 <z):ey n a z=0:=by unfold ey;rw [if_neg (by omega),if_neg h]
section
variable {cs:List ByteArray} {ws:List ae}
theorem Ka(h:cs.length=0∨128 <cs.length):au cs ws=1:=if_pos h
theorem Vx(h:¬(cs.length=0∨128 <cs.length))(h2:gd cs=2):au cs ws=2:=by unfold au;rw [if_neg h,if_pos (by rw [h2];decide)]
theorem Dx(h:¬(cs.length=0∨128 <cs.length))(h2:gd cs=0)(h3:fg cs.length ws≠0):au cs ws=fg cs.length ws:=by unfold au;rw [if_neg h,if_neg (by simp [h2]),if_pos h3]
theorem Vw(h:¬(cs.length=0∨128 <cs.length))(h2:gd cs=0)(h3:fg cs.length ws=0)(h4:400 <ws.length):au cs ws=2:=by unfold au;rw [if_neg h,if_neg (by simp [h2]),if_neg (by simp [h3]),if_pos h4]
theorem Dy(h:¬(cs.length=0∨128 <cs.length))(h2:gd cs=0)(h3:fg cs.length ws=0)(h4:¬400 <ws.length):au cs ws=0:=by unfold au;rw [if_neg h,if_neg (by simp [h2]),if_neg (by simp [h3]),if_neg h4]
end
def gf(a:Int)(K:Nat→Bool):Nat→List ae→ByteArray→ByteArray
 |_,[],d=>d
 |i,p::r,d=>gf a K (i+1) r (if p.At=a∧K i=true then p.Text else d)
theorem Tk(a:Int)(K:Nat→Bool)(p:ae):∀(l:List ae) (i:Nat) (d:ByteArray),gf a K i (l++[p]) d=if p.At=a∧K (i+l.length)=true then p.Text else gf a K i l d
 | [],i,d=>by simp [gf]
 |x::r,i,d=>by simp only [List.cons_append,gf];rw [Tk a K p r (i+1)];rw [show i+1+r.length=i+(x::r).length by simp;omega]
theorem Cw{a:Int}{K:Nat→Bool}{l:List ae}{k:Nat}{p:ae}{d:ByteArray}(h:l[k]?=some p):gf a K 0 (l.take (k+1)) d=if p.At=a∧K k=true then p.Text else gf a K 0 (l.take k) d:=by have hk:=(gS.1 h).1;rw [List.take_add_one,h];show gf a K 0 (l.take k++[p]) d=_;rw [Tk,List.length_take,show 0+min k l.length=k by omega]
def ia:Nat→Bool:=fun _=>true
def ar(cs:List ByteArray)(ws:List ae)(a:Int):ByteArray:=gf a ia 0 ws (cs.getD a.toNat ⟨#[]⟩)
def kp(K:Nat→Bool)(cs:List ByteArray)(ws:List ae):List ByteArray:=(List.range cs.length).map fun(i:Nat)=>gf (i:Int) K 0 ws (cs.getD i ⟨#[]⟩)
theorem Cx(K:Nat→Bool)(cs:List ByteArray)(ws:List ae):(kp K cs ws).length=cs.length:=by simp [kp]
theorem Be{n:Int}:∀ {l:List ae},fg n l=0→∀p∈l,0≤p.At∧p.At <n∧p.Text.size≤1024
 | [],_,p,hp=>by simp at hp
 |x::r,h,p,hp=>by
  simp only [fg]at h;by_cases h1:ey n x.At x.Text.size=0
  ·rw [if_neg (by simp [h1])]at h;rcases List.mem_cons.1 hp with rfl|hp
   ·unfold ey at h1;split at h1
    ·cases h1
    ·split at h1
     ·cases h1
     ·omega
   ·exact Be h p hp
  ·rw [if_pos h1]at h;exact absurd h h1
theorem jz{cs:List ByteArray}{ws:List ae}(h:au cs ws=0):0 <cs.length∧cs.length≤128∧gd cs=0∧fg cs.length ws=0∧ws.length≤400:=by
 unfold au at h;split at h
 ·cases h
 ·rename_i h1;split at h
  ·cases h
  ·rename_i h2;split at h
   ·rename_i h3;exact absurd h h3
   ·rename_i h3;split at h
    ·cases h
    ·exact⟨by omega,by omega,Classical.byContradiction fun k=>h2 k,Classical.byContradiction fun k=>h3 k,by omega⟩
def mj(K:Nat→Bool)(cs:List ByteArray)(ws:List ae)(k:Nat):List ByteArray:=kp K cs (ws.take k)
theorem n0w(K:Nat→Bool)(cs:List ByteArray)(ws:List ae):mj K cs ws 0=cs:=by
 unfold mj kp;apply List.ext_getElem?;intro i;by_cases hi:i <cs.length
 ·rw [List.getElem?_map,List.getElem?_range hi];simp [gf,gE hi]
 ·rw [List.getElem?_eq_none (by simp;omega),List.getElem?_eq_none (by omega)]
theorem n0y{K:Nat→Bool}{cs:List ByteArray}{ws:List ae}{k:Nat}{p:ae}(h:ws[k]?=some p)(hK:K k=false):mj K cs ws (k+1)=mj K cs ws k:=by unfold mj kp;apply List.map_congr_left;intro i _;rw [Cw h,if_neg (by rw [hK];simp)]
theorem n0x{K:Nat→Bool}{cs:List ByteArray}{ws:List ae}{k j:Nat}{p:ae}(h:ws[k]?=some p)(hK:K k=true)(hj:p.At=(j:Int))(hjl:j <cs.length):mj K cs ws (k+1)=(mj K cs ws k).set j p.Text:=by
 unfold mj kp;apply List.ext_getElem?;intro i;rw [List.getElem?_set,List.length_map,List.length_range];by_cases hi:i <cs.length
 ·rw [List.getElem?_map,List.getElem?_range hi,List.getElem?_map,List.getElem?_range hi,Option.map_some,Option.map_some];rw [Cw h];by_cases e:j=i
  ·subst e;rw [if_pos ⟨hj,hK⟩,if_pos rfl,if_pos hjl]
  ·rw [if_neg (by omega),if_neg e]
 ·rw [List.getElem?_eq_none (by simp;omega),if_neg (by omega),List.getElem?_eq_none (by simp;omega)]
theorem n0z(K:Nat→Bool)(cs:List ByteArray)(ws:List ae):mj K cs ws ws.length=kp K cs ws:=by unfold mj;rw [List.take_length]
def n9(t:ByteArray):Prop:=ch t=0∧dg t=1
open Classical in
noncomputable def scN(t:ByteArray):Int:=if n9 t then d9 t else 0
open Classical in
noncomputable def scL(t:ByteArray):List bz:=if n9 t then brL (aq t)else []
open Classical in
noncomputable def scB(t:ByteArray):Bool:=if n9 t then brB (aq t)else false
open Classical in
noncomputable def scO(t:ByteArray):Bool:=if n9 t then decide (brE (aq t)=0)else false
theorem Ow{t:ByteArray}(h:¬n9 t):scN t=0∧scL t=[]∧scB t=false∧scO t=false:=by unfold scN scL scB scO;rw [if_neg h,if_neg h,if_neg h,if_neg h];exact⟨rfl,rfl,rfl,rfl⟩
theorem Gh{t:ByteArray}(h:n9 t):scN t=d9 t∧scL t=brL (aq t)∧scB t=brB (aq t)∧scO t=decide (brE (aq t)=0):=by unfold scN scL scB scO;rw [if_pos h,if_pos h,if_pos h,if_pos h];exact⟨rfl,rfl,rfl,rfl⟩
noncomputable def ubE(cs:List ByteArray)(ws:List ae)(pc pn:Int):Int:=
 if pc <2∨(cs.length:Int)≤pc∨pn <0 then 12 else if scO (ar cs ws pc)=false then 18 else if((scL (ar cs ws pc)).length:Int)≤pn then 12 else 0
def pu:bz:=⟨0,0,0,⟨#[]⟩⟩
noncomputable def ubB(cs:List ByteArray)(ws:List ae)(pc pn:Int):bz:=if ubE cs ws pc pn=0 then(scL (ar cs ws pc)).getD pn.toNat pu else pu
section
variable {cs:List ByteArray} {ws:List ae} {pc pn:Int}
theorem Bg{e:Int}(h:ubE cs ws pc pn=e)(h0:e≠0):ubB cs ws pc pn=pu:=by unfold ubB;rw [if_neg (by rw [h];exact h0)]
theorem ud(h:pc <2∨(cs.length:Int)≤pc∨pn <0):ubE cs ws pc pn=12:=if_pos h
theorem Nj(h:¬(pc <2∨(cs.length:Int)≤pc∨pn <0))(h2:scO (ar cs ws pc)=false):ubE cs ws pc pn=18:=by unfold ubE;rw [if_neg h,if_pos h2]
theorem Nh(h:¬(pc <2∨(cs.length:Int)≤pc∨pn <0))(h2:scO (ar cs ws pc)=true)(h3:((scL (ar cs ws pc)).length:Int)≤pn):ubE cs ws pc pn=12:=by unfold ubE;rw [if_neg h,if_neg (by rw [h2];decide),if_pos h3]
theorem Ng(h:¬(pc <2∨(cs.length:Int)≤pc∨pn <0))(h2:scO (ar cs ws pc)=true)(h3:¬((scL (ar cs ws pc)).length:Int)≤pn):ubE cs ws pc pn=0∧ubB cs ws pc pn=(scL (ar cs ws pc)).getD pn.toNat pu:=by
 have e:ubE cs ws pc pn=0:=by unfold ubE;rw [if_neg h,if_neg (by rw [h2];decide),if_neg h3]
 exact⟨e,by unfold ubB;rw [if_pos e]⟩
end
def idx(d:W32)(s:ByteArray)(k:Nat):Nat:=((d^^^bw s k)&&&0xff#32).toNat
theorem w0n(n:Nat):n&&&255=n%256:=Nat.and_two_pow_sub_one_eq_mod n 8
theorem Uh(d:W32)(s:ByteArray)(k:Nat):idx d s k=(d.toNat^^^(bw s k).toNat)%256:=by unfold idx;rw [BitVec.toNat_and,BitVec.toNat_xor];exact w0n _
theorem p0r(d:W32)(s:ByteArray)(k:Nat):idx d s k <256:=by rw [Uh];omega
theorem p0p(d:W32)(s:ByteArray)(k:Nat):bits .xor .u8 (v32 d%256) (PlainAid.bt s k)=(idx d s k:Int):=by have hl:=Ec s k;rw [Kr,Uh,Nat.xor_mod_two_pow (n:=8)];unfold v32;rw [show((d.toNat:Int)%256)=((d.toNat%256:Nat):Int) by omega,u8_xor_nat _ _ (by omega) hl];rw [show(bw s k).toNat%2^8=(bw s k).toNat by omega]
theorem p0q(d:W32)(s:ByteArray)(k:Nat):(d>>>8)^^^jp 8 (BitVec.ofNat 32 (idx d s k))=Af d (bw s k):=by
 have hl:=Ec s k;unfold Af;rw [c0e (d^^^bw s k)]
 have e1:(d^^^bw s k)>>>8=d>>>8:=by apply BitVec.eq_of_toNat_eq;rw [BitVec.toNat_ushiftRight,BitVec.toNat_ushiftRight,BitVec.toNat_xor,Nat.shiftRight_xor_distrib,Nat.shiftRight_eq_div_pow (bw s k).toNat,show(bw s k).toNat/2^8=0 by omega,Nat.xor_zero]
 rw [e1];unfold idx;rw [BitVec.ofNat_toNat];simp
attribute [local irreducible] v32
theorem c0p(d:W32):v32 d/(256:Int)=v32 (d>>>8):=by have:=Ga d 8;simpa using this
theorem m0a(c:W32)(s:ByteArray)(w:World)(hs:s.size≤9223372036854775807):Calls Tryz.prog 114 #[.int .u32 (v32 c),.string s] w fun e w'=>e= .returned (.int .u32 (v32 (vp c s)))∧Below w.heap.size w w':=by
 have hb:=md c;by_cases h32:(s.size:Int) <32
 ·go_enter Tryz.func114,Tryz.ntmps114;go_wp2_with(go_at_call 142;refine(c0m _ _ _ hs).mono ?_;rintro e w' ⟨rfl,rfl⟩);go_ret;exact⟨rfl,br⟩
 ·have h9:=xf c;have h7:=G6;have hg:=PlainAid.get_bt s;have hz:=Lz;have hi:=h_ (U7 256)
  have h3:Hid ((ic 256).all (·.oneCell')=true):=by simp only [Hid,ic,uh];simp [Value.oneCell'];intro x hx;simp [hx]
  have HO:=h_ @uj;go_enter Tryz.func114,Tryz.ntmps114
  go_wp2_with(first
   |(go_at_call 143;refine(b0d _).mono ?_;rintro e w1 ⟨rfl,h1⟩)
   |(refine wpList_store_rowTo rfl _ _ _ rfl rfl w1.heap.size (ic 256) rfl rfl _ (ic 0) (A_ _ _) hi.o ((HO.o 0).trans (HO.o 256).symm) h3.o ?_;rw [World.setRow_alloc_new]))
  obtain⟨wt,h0⟩:∃wt,wt=w1.alloc (.cells (ic 256) 221):=⟨_,rfl⟩;have h2:wt.heap[w1.heap.size]?=some (.cells (ic 256) 221 (0,0)):=by rw [h0];exact A_ _ _
  have h4:Below w.heap.size w wt:=by rw [h0];exact h1.alloc h1.size _
  rw [←h0]
  have HC:Hid (∀i,i <256→wt.cell? ⟨w1.heap.size,i,none⟩=some (.int .u32 (v32 (jp 8 (BitVec.ofNat 32 i))))):=fun i hi=>by rw [Nt _ _ _ _ _ _ h2,yd _ _ hi,if_pos hi];rfl
  clear h0 h2 hz hi h3 HO;go_loop [0,18] (fun v0 v18=>∃(k:Nat) (d:W32),k≤s.size∧v18= .int .i64 k∧v0= .int .u32 (v32 d)∧Hid (d=Ac (bw s) (~~~ c) k)) (fun _ v18=>s.size- (intOf v18).toNat)
  case atStart=>exact⟨0,~~~ c,zl,rfl,rfl,rfl⟩
  case round=>
   obtain⟨k,d,hk,rfl,rfl,hd⟩:=hrel;have hf:=md d;by_cases hlt:k <s.size
   ·have hx:=p0p d s k;have h5:=p0r d s k;have h8:=HC.o _ h5;have ha:=c0p d;have h6:=ub (d>>>8) (jp 8 (BitVec.ofNat 32 (idx d s k)));rw [p0q]at h6;have he:=PlainAid.bt_nonneg s k;have h1:=PlainAid.bt_le s k;generalize idx d s k=q at*;go_wp2;go_round
    case rel=>exact⟨k+1,Af d (bw s k),by omega,by go_num,rfl,by simp only [Hid];rw [hd.o];rfl⟩
    case measure=>simp [intOf];omega
   ·have hc:=xf d;go_wp2;go_ret;refine⟨ax ?_,h4⟩;rw [hd.o,show k=s.size by omega];rfl
theorem Fy:v32 0#32=0:=by unfold v32;rfl
theorem a0g:v32 Ab=517762881:=by unfold v32;rfl
theorem k0z(s:ByteArray)(w:World)(hs:s.size≤9223372036854775807):Calls Tryz.prog 114 #[.int .u32 0,.string s] w fun e w'=>e= .returned (.int .u32 (v32 (vp 0#32 s)))∧Below w.heap.size w w':=by have h:=m0a 0#32 s w hs;rw [Fy]at h;exact h
theorem Nv(s:ByteArray)(w:World)(hs:s.size≤9223372036854775807):Calls Tryz.prog 84 #[.string s] w fun e w'=>e= .returned (.int .u32 (v32 (vp 0#32 s)))∧Below w.heap.size w w':=by go_enter Tryz.func84,Tryz.ntmps84;go_wp2_with(go_at_call 114;refine(k0z _ _ hs).mono ?_;rintro e w' ⟨rfl,hb⟩);go_ret;exact⟨rfl,hb⟩
theorem a0y(c:W32)(w:World):Calls Tryz.prog 158 #[.int .u64 (v32 c),.int .i64 32] w fun e w'=>e= .returned (.int .u64 (v32 (turn c)))∧w=w':=by have h:=q0t c.toNat 32 w (by have:=c.isLt;omega) (by omega) (by omega);rw [q0u]at h;unfold v32;exact h
theorem Nm(c:W32)(w:World):Calls Tryz.prog 145 #[.int .u32 (v32 c)] w fun e w'=>e= .returned (.int .u32 (v32 (turn c)))∧w=w':=by have hb:=md c;have h0:=md (turn c);go_enter Tryz.func145,Tryz.ntmps145;go_wp2_with(go_at_call 158;refine(a0y _ _).mono ?_;rintro e w' ⟨rfl,rfl⟩);go_ret;exact⟨rfl,rfl⟩
theorem Uu(c:W32):c.getLsbD 31=decide (2147483648≤v32 c):=by have:=c.isLt;rw [BitVec.getLsbD,Nat.testBit_eq_decide_div_mod_eq];unfold v32;congr 1;apply propext;constructor<;>intro h<;>omega
theorem c0q(c:W32):v32 c*(2:Int)%(4294967296:Int)=v32 (c <<<1):=by have:=Oc c 1;simpa using this
theorem b0a(c:W32)(w:World):Calls Tryz.prog 146 #[.int .u32 (v32 c)] w fun e w'=>e= .returned (.int .u32 (v32 (tj c)))∧w=w':=by
 have hb:=md c;have h1:=c0q c;have h2:IntKind.u32.wrap (v32 c*2)=v32 (c <<<1):=by rw [IntKind.wrap_u32,h1]
 have h3:=ub (c <<<1) Ab;rw [a0g]at h3;by_cases hc:2147483648≤v32 c
 ·have F:tj c=(c <<<1)^^^Ab:=by unfold tj;rw [Uu];simp [hc]
  go_enter Tryz.func146,Tryz.ntmps146;go_wp2;go_ret;exact⟨by first|(rw [F];rfl)|rfl,rfl⟩
 ·have F:tj c=c <<<1:=by unfold tj;rw [Uu];simp [hc]
  go_enter Tryz.func146,Tryz.ntmps146;go_wp2;go_ret;exact⟨by first|(rw [F];rfl)|rfl,rfl⟩
theorem v0p(b:W32)(k:Nat):v32 (jv b k)≤1:=by
 have h:jv b k=if(b>>>k).getLsbD 0 then 1#32 else 0#32:=by
  unfold jv;apply BitVec.eq_of_getLsbD_eq;intro i hi;rw [BitVec.getLsbD_and,Ib];by_cases h0:i=0
  ·subst h0;cases(b>>>k).getLsbD 0<;>rfl
  ·rw [show decide (i=0)=false by simp [h0],Bool.and_false];split
   ·rw [Ib];simp [h0]
   ·simp
 rw [h];unfold v32;split<;>decide
theorem v0q(s:ByteArray)(k j:Nat):bits .and .u8 (v32 (bw s k>>>j)) 1=v32 (jv (bw s k) j):=by
 have hl:=Ec s k
 have h2:(bw s k>>>j).toNat <256:=by rw [BitVec.toNat_ushiftRight,Nat.shiftRight_eq_div_pow];exact Nat.lt_of_le_of_lt (Nat.div_le_self _ _) hl
 unfold v32 jv;rw [show(1:Int)=((1:Nat):Int)from rfl,u8_and_nat _ _ h2 (by decide),BitVec.toNat_and];rfl
theorem p0y(b:W32)(j:Nat):v32 (jv b j)*(2147483648:Int)%(4294967296:Int)=v32 (turn (jv b j)):=by have:=Oc (jv b j) 31;rw [a0x]at this;simpa using this
theorem s0g(s:ByteArray)(k j:Nat):PlainAid.bt s k/(2:Int)^j=v32 (bw s k>>>j):=by have:=Ga (bw s k) j;rw [Kr,←this];simp
theorem Nu(c:W32)(s:ByteArray)(w:World)(hs:s.size≤9223372036854775807):Calls Tryz.prog 118 #[.int .u32 (v32 c),.string s] w fun e w'=>e= .returned (.int .u32 (v32 (vp c s)))∧w=w':=by
 have hb:=md c;have h5:=xf c;have h3:=G6;have hc:=PlainAid.get_bt s;go_enter Tryz.func118,Tryz.ntmps118;go_wp2_with(go_at_call 145;refine(Nm _ _).mono ?_;rintro e w' ⟨rfl,rfl⟩);go_loop [5,13] (fun v5 v13=>∃(k:Nat) (d:W32),k≤s.size∧v13= .int .i64 k∧v5= .int .u32 (v32 (turn d))∧Hid (d=Ac (bw s) (~~~ c) k)) (fun _ v13=>s.size- (intOf v13).toNat)
 case atStart=>exact⟨0,~~~ c,zl,rfl,rfl,rfl⟩
 case round=>
  obtain⟨k,d,hk,rfl,rfl,hd⟩:=hrel;by_cases hlt:k <s.size
  ·have ha:=PlainAid.bt_nonneg s k;have h6:=PlainAid.bt_le s k;go_wp2;go_loop [5,16] (fun v5 v16=>∃(j:Nat) (e:W32),j≤8∧v16= .int .i64 j∧v5= .int .u32 (v32 (turn e))∧Hid (e=r9 d (bw s k) j)) (fun _ v16=>8- (intOf v16).toNat)
   case atStart=>exact⟨0,d,by omega,rfl,rfl,rfl⟩
   case round=>
    obtain⟨j,e,hj,rfl,rfl,he⟩:=hrel;have h7:=md (turn e);by_cases hj8:(j:Int) <8
    ·have h4:(j:Int)≤7:=by omega
     have h8:(k:Int) < (s.size:Int):=by omega
     have f1:=s0g s k j;have f2:=v0q s k j;have f3:=p0y (bw s k) j;have f4:=v0p (bw s k) j;have f5:=md (jv (bw s k) j);have f6:IntKind.u32.wrap (v32 (jv (bw s k) j)*(2147483648:Int))=v32 (turn (jv (bw s k) j)):=by rw [IntKind.wrap_u32,f3]
     have f7:=ub (turn e) (turn (jv (bw s k) j));rw [←a0v]at f7;have f8:min j 8=j:=by omega
     generalize hbj:jv (bw s k) j=bj at*;have h1:=h_ hbj;clear hbj;generalize bw s k>>>j=bs at*;have f9:v32 bj%(4294967296:Int)=v32 bj:=by omega
     have HE:Hid (r9 d (bw s k) (j+1)=ju (e^^^bj)):=by simp only [Hid,r9];rw [←he.o,←h1.o]
     have h2:=Nk (e^^^bj);go_wp2_with(go_at_call 146;refine(b0a (turn (e^^^bj)) _).mono ?_;rintro e w' ⟨rfl,rfl⟩;rw [←h2]);go_round
     case rel=>exact⟨j+1,ju (e^^^bj),by omega,by go_num,by rw [Nk],by simp only [Hid];rw [HE.o]⟩
     case measure=>simp [intOf];omega
    ·go_wp2;go_round
     case rel=>exact⟨k+1,e,by omega,by go_num,rfl,by simp only [Hid];rw [he.o,hd.o,show j=8 by omega,g0t _ _ (Ec s k)];rfl⟩
     case measure=>simp [intOf];omega
  ·have h9:=xf d;have h0:=a0w d;go_wp2_with(go_at_call 145;refine(Nm _ _).mono ?_;rintro e w' ⟨rfl,rfl⟩;rw [h0]);go_ret;refine⟨ax ?_,rfl⟩;rw [hd.o,show k=s.size by omega];rfl
end
end Go.Proofs.YtcldpfhpkbeaiadGreat
