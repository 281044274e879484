/- A part of the proof of FsMounts. No condition of ours. -/
import Derived.Test.YtcldpfhpkbeaiadGreatFsMounts00
import Derived.ProofKit
import Derived.OpenShut
import Derived.ShutString
import Derived.ChangeOld
import Derived.Below
import Derived.SizedLaws
import Derived.Carry
import Derived.Deep.Slices
import Derived.Deep.Fields
import Derived.Deep.QuietTactic
import Derived.BigQuiet
import Derived.Handy
import Derived.Maps.AppendAt
import Derived.Deep.AppendLies
import Derived.Laws.BytesArg
import Derived.Laws.OwnMore
import Derived.WalkSpells
import Derived.WalkLawsBesides
import Derived.PlainAid
import Derived.Lib.Strings
import Derived.Great.BuildSlice
import Derived.Laws.CopyRow
set_option maxRecDepth 20000
set_option maxHeartbeats 1000000
namespace Go.Proofs.YtcldpfhpkbeaiadGreat
section
open Go.RowKit
theorem x0u(a:Int)(h0:0≤a)(h1:a <18446744073709551616):bits .xor .u64 a 0=a:=by obtain⟨n,rfl⟩:=Int.eq_ofNat_of_zero_le h0;have:=u64_xor_nat n 0 (by omega) (by decide);simpa using this
theorem w0k(u:Int)(h0:0≤u)(h1:u <18446744073709551616):bits .and .u64 u 1=u%2:=by obtain⟨n,rfl⟩:=Int.eq_ofNat_of_zero_le h0;have h:=u64_and_nat n 1 (by omega) (by decide);rw [nat_mask1]at h;exact h
theorem Bc{n:Int}(h:(Lit.int .i64 n).wf=true): -9223372036854775808≤n∧n≤9223372036854775807:=by simpa [Lit.wf,IntKind.min,IntKind.max,IntKind.signed,IntKind.bits]using h
theorem Mq{n:Int}(h:(Lit.int .u8 n).wf=true):0≤n∧n≤255:=by simpa [Lit.wf,IntKind.min,IntKind.max,IntKind.signed,IntKind.bits]using h
def cb:Nat→Int→List Int
 |0,_=>[]
 |k+1,n=>n/256^k%256::cb k n
theorem l8(k:Nat)(n:Int):(cb k n).length=k:=by
 induction k with
 |zero=>rfl
 |succ k ih=>simp [cb,ih]
theorem r0b(i:Nat)(L:List Int)(b:Int):(List.replicate (i+1) 0++L).set i b=List.replicate i 0++b::L:=by rw [List.replicate_succ',List.append_assoc];rw [List.set_append_right _ _ (by simp)];simp
def ir(w:Int)(n:Int):List Int:=if 1≤w∧w≤8 then cb w.toNat n else []
theorem Ob(n:Int)(k:Nat):n/256^k/256=n/256^(k+1):=by rw [Int.pow_succ,←Int.ediv_ediv_of_nonneg (Int.le_of_lt (Int.pow_pos (by decide)))]
def beF(f:Nat→Int):Nat→Int
 |0=>0
 |k+1=>beF f k*256+f k
theorem h0t(k:Nat):(0:Int) <256^k:=Int.pow_pos (by decide)
theorem rz(f:Nat→Int)(h0:∀j,0≤f j)(h1:∀j,f j≤255)(k:Nat):0≤beF f k∧beF f k <256^k:=by
 induction k with
 |zero=>simp [beF]
 |succ k ih=>have:=h0 k;have:=h1 k;simp only [beF,Int.pow_succ];omega
theorem h0s(k:Nat)(h:k≤8):(256:Int)^k≤18446744073709551616:=by
 have:(256:Nat)^k≤256^8:=Nat.pow_le_pow_right (by omega) h;have e:(256:Nat)^8=18446744073709551616:=by decide
 have e2:((256:Int)^k)=((256^k:Nat):Int):=by simp
 omega
theorem or8(v b:Int)(h0:0≤v)(h1:v*256 <18446744073709551616)(hb0:0≤b)(hb1:b≤255):bits .or .u64 (IntKind.u64.wrap (v*256)) b=v*256+b:=by obtain⟨a,rfl⟩:=Int.eq_ofNat_of_zero_le h0;obtain⟨c,rfl⟩:=Int.eq_ofNat_of_zero_le hb0;rw [IntKind.wrap_u64,show((a:Int)*256%18446744073709551616)=((a*256:Nat):Int) by omega,u64_or_nat _ _ (by omega) (by omega),nat_join 8 _ _ (by omega) (by omega)];omega
theorem v0y(f:Nat→Int)(h0:∀j,0≤f j)(h1:∀j,f j≤255)(k:Nat)(v:Int)(hv:v=beF f k)(hk:k <8):bits .or .u64 (IntKind.u64.wrap (v*256)) (f k)=beF f (k+1):=by have hb:=rz f h0 h1 k;have hp:=h0s (k+1) (by omega);rw [Int.pow_succ]at hp;rw [hv,or8 _ _ hb.1 (by omega) (h0 k) (h1 k)];rfl
theorem Zp(f:Nat→Int)(h0:∀j,0≤f j)(h1:∀j,f j≤255)(T n worth:Int)(i m:Nat)(hm:m <8)(hw:worth=256^m%18446744073709551616)(hn0:0≤n)(hn1:n <256^m)(hT:beF f (i+1)*256^m+n=T):
 IntKind.u64.wrap (n+IntKind.u64.wrap (f i*worth))=n+f i*256^m∧beF f i*256^(m+1)+(n+f i*256^m)=T∧
  0≤n+f i*256^m∧n+f i*256^m <256^(m+1)∧IntKind.u64.wrap (worth*256)=256^(m+1)%18446744073709551616:=by
 have hp:=h0t m
 have h2:(256:Int)^m≤72057594037927936:=by
  have h:(256:Nat)^m≤256^7:=Nat.pow_le_pow_right (by omega) (by omega);have e:(256:Nat)^7=72057594037927936:=by decide
  have e2:((256:Int)^m)=((256^m:Nat):Int):=by simp
  omega
 have a0:=h0 i
 have a1:=h1 i
 have e1:worth=256^m:=by rw [hw];omega
 have x0:0≤f i*256^m:=Int.mul_nonneg a0 (by omega)
 have x1:f i*256^m≤255*256^m:=Int.mul_le_mul_of_nonneg_right a1 (by omega)
 have e3:beF f (i+1)=beF f i*256+f i:=rfl
 rw [e1]
 rw [IntKind.wrap_u64,IntKind.wrap_u64,IntKind.wrap_u64,Int.pow_succ]
 refine⟨?_,?_,by omega,by omega,rfl⟩
 ·omega
 ·rw [←hT,e3,Int.add_mul,Int.mul_comm (256^m) 256,←Int.mul_assoc]
  omega
end
section
open Go.ChangeShapes Go.WideShapes Go.ChangeAt Go.RowKit Go.Deep
open Go.ChangeMaps (open_string shut_string)
structure ab{α:Type}(w:World)(B:Nat)(A:Option Addr)(n c:Nat)(enc:α→List Value)(k:Nat)(xs:List α):Prop where
 len:xs.length=n
 le:n≤c
 top:c≤maxLen
 at_:∀(i:Nat) (x:α),xs[i]?=some x→∃b o,A=some ⟨b,o,none⟩∧b <B∧∀(j:Nat) (u:Value),(enc x)[j]?=some u→w.cell? ⟨b,o+i*k+j,none⟩=some u
section
variable {α:Type} {w w':World} {B B' n c k:Nat} {A:Option Addr} {enc:α→List Value} {xs:List α}
theorem ab.keep(h:ab w B A n c enc k xs)(hk:∀p:Addr,p.block <B→w'.cell? p=w.cell? p):ab w' B A n c enc k xs:=
 ⟨h.len,h.le,h.top,fun i x hx=>by
   obtain⟨b,o,e,hb,hc⟩:=h.at_ i x hx
   exact⟨b,o,e,hb,fun j u hu=>(hk ⟨b,_,none⟩ hb).trans (hc j u hu)⟩⟩
theorem ab.below(h:ab w B A n c enc k xs)(hb:Below B w w'):ab w' B A n c enc k xs:=h.keep fun _ hp=>hb.cell hp
theorem ab.more(h:ab w B A n c enc k xs)(hB:B≤B'):ab w B' A n c enc k xs:=
 ⟨h.len,h.le,h.top,fun i x hx=>by
   obtain⟨b,o,e,hb,hc⟩:=h.at_ i x hx
   exact⟨b,o,e,by omega,hc⟩⟩
theorem ab.drew(h:ab w B A n c enc k xs):ab w.drew B A n c enc k xs:=h.keep fun _ _=>rfl
theorem ab.drewN(h:ab w B A n c enc k xs)(m:Nat):ab (w.drewN m) B A n c enc k xs:=h.keep fun _ _=>rfl
theorem ab.alloc(h:ab w B A n c enc k xs)(hB:B≤w.heap.size)(o:Obj):ab (w.alloc o) B A n c enc k xs:=h.keep fun p hp=>World.cell?_alloc_lt w o p (by omega)
theorem ab.one{f:α→Value}(h:ab w B A n c (fun x=>[f x]) 1 xs){i:Nat}{x:α}(hx:xs[i]?=some x):∃b o,A=some ⟨b,o,none⟩∧b <B∧w.cell? ⟨b,o+i,none⟩=some (f x):=by obtain⟨b,o,e,hb,hc⟩:=h.at_ i x hx;exact⟨b,o,e,hb,by simpa using hc 0 _ rfl⟩
end
theorem k0f{W w1:World}(hb:Below W.heap.size W w1):(∀b o,b <W.heap.size→w1.cell? ⟨b,o,none⟩=W.cell? ⟨b,o,none⟩)∧(∀b o,b <W.heap.size→w1.frozen? ⟨b,o,none⟩=W.frozen? ⟨b,o,none⟩):=
 ⟨fun b o h=>hb.cell (p:=⟨b,o,none⟩) h,fun b o h=>hb.frozen (p:=⟨b,o,none⟩) h⟩
theorem ax{k:IntKind}{a b:Int}(h:a=b):Ending.returned (.int k a)= .returned (.int k b):=by rw [h]
theorem oj{k k':IntKind}{a b a' b':Int}(h:a=b)(h':a'=b'):Ending.returned (.tuple #[.int k a,.int k' a'])= .returned (.tuple #[.int k b,.int k' b']):=by rw [h,h']
theorem lg{k k' k'':IntKind}{a b a' b' a'' b'':Int}(h:a=b)(h':a'=b')(h'':a''=b''):Ending.returned (.tuple #[.int k a,.int k' a',.int k'' a''])= .returned (.tuple #[.int k b,.int k' b',.int k'' b'']):=by rw [h,h',h'']
theorem sq{a b:ByteArray}(h:a=b):Ending.returned (.string a)= .returned (.string b):=by rw [h]
theorem em{k:IntKind}{a b:ByteArray}{a' b':Int}(h:a=b)(h':a'=b'):Ending.returned (.tuple #[.string a,.int k a'])= .returned (.tuple #[.string b,.int k b']):=by rw [h,h']
theorem lw{k:IntKind}{a b:Int}(h:a=b):(Value.int k a)= .int k b:=by rw [h]
theorem r0x{α:Type}{Q:Nat→α→Prop}:∀ {n:Nat},(∀i,i <n→∃x,Q i x)→∃xs:List α,xs.length=n∧∀(i:Nat) (x:α),xs[i]?=some x→Q i x:=by
 intro n;induction n with
 |zero=>exact fun _=>⟨[],rfl,fun i x h=>by simp at h⟩
 |succ n ih=>
  intro h;obtain⟨xs,hl,hq⟩:=ih (fun i hi=>h i (by omega));obtain⟨y,hy⟩:=h n (by omega);refine⟨xs++[y],by simp [hl],fun i x hx=>?_⟩;by_cases hi:i <n
  ·rw [List.getElem?_append_left (by omega)]at hx;exact hq i x hx
  ·have h0:i=n:=by have:=(gS.1 hx).1;simp at this;omega
   subst h0;rw [List.getElem?_append_right (by omega),hl]at hx;simp at hx;subst hx;exact hy
section
variable {H:Type} {enc:TypeId×Value→H} {P:Program} {w:World} {base:Nat} {spare:Nat→Bool} {held:Bool}
theorem x0q(a:Addr)(i j:Nat):(a.add i).add j=a.add (i+j):=by unfold Addr.add;by_cases hi:i=0<;>by_cases hj:j=0<;>simp [hi,hj,Nat.add_assoc]
theorem ms(b o n:Nat):(Addr.add ⟨b,o,none⟩ n)=⟨b,o+n,none⟩:=by
 unfold Addr.add;split
 ·rename_i h;subst h;rfl
 ·rfl
theorem j0v{t e:TypeId}{α:Type}{cells:α→List Value}{ok:α→Prop}{A:Option Addr}{n c k fuel:Nat}{x:DataW H×List MemPlace}(ht:P.underlying t=some (.slice e))(hk:P.cellsOf e=k)(hk0:0 <k)(hel:∀(m:Nat) (cs:List Value) (y:DataW H×List MemPlace),DataW.trod enc P w base spare held m e cs=some y→∃z:α,cs=cells z∧ok z)(h:DataW.trod enc P w base spare held fuel t [.slice A n c]=some x):
 (∃xs:List α,ab w w.heap.size A n c cells k xs∧∀z∈xs,ok z)∧
  ((A=none∧n=0∧c=0∧x.1= .nil)∨∃elems sp,x.1= .slice elems sp∧elems.length=n∧((∀b,spare b=true)→sp.length=c-n)):=by
 rcases open_slice ht h with⟨hcs,hx⟩|⟨a,len,cap,m,n',D,Pl,hcs,hb,hl,hm,hmm,hx,hi⟩
 ·simp only [List.cons.injEq,Value.slice.injEq,and_true]at hcs
  obtain⟨rfl,rfl,rfl⟩:=hcs
  exact⟨⟨[],⟨rfl,Nat.le_refl _,zl,fun i x hx=>by simp at hx⟩,fun z hz=>by simp at hz⟩,.inl ⟨rfl,rfl,rfl,by rw [hx]⟩⟩
 ·simp only [List.cons.injEq,Value.slice.injEq,and_true]at hcs
  obtain⟨rfl,rfl,rfl⟩:=hcs
  obtain⟨b,o,s⟩:=a
  have hd:n≤m:=by rw [hmm];split<;>omega
  have one:∀i,i <n→∃z:α,ok z∧(cells z).length=k∧∀j u,(cells z)[j]?=some u→w.cell? (Addr.add ⟨b,o,s⟩ (i*k+j))=some u:=by
   intro i h2;obtain⟨h9,hc,h8⟩:=hi i (by omega);obtain⟨z,rfl,hz⟩:=hel _ _ _ h8;obtain⟨_,h4,h5⟩:=World.cells?_some hc;refine⟨z,hz,by omega,fun j u hu=>?_⟩;have hj:j <P.cellsOf e:=by rw [←h4];exact(gS.1 hu).1
   have h1:=(h5 j hj).trans hu;rwa [hk,x0q]at h1
  have hs:0 <n→s=none:=by intro hn;obtain⟨z,_,hz,h1⟩:=one 0 hn;have h0:=h1 0 _ (gE (by omega));exact World.cell?_spot (a:=⟨b,o,s⟩) (by simpa [Addr.add]using h0)
  obtain⟨xs,h6,hq⟩:=r0x (n:=n) (Q:=fun i (z:α)=>ok z∧s=none∧b <w.heap.size∧∀j u,(cells z)[j]?=some u→w.cell? ⟨b,o+i*k+j,none⟩=some u) (by
 intro i h2
 obtain rfl:s=none:=hs (by omega)
 obtain⟨z,hz,ha,h1⟩:=one i h2
 have h0:=h1 0 _ (gE (by omega))
 rw [ms]at h0
 refine⟨z,hz,rfl,World.block_lt_of_cell? w _ h0,fun j u hu=>?_⟩
 have:=h1 j u hu
 rwa [ms,←Nat.add_assoc]at this)
  refine⟨⟨xs,⟨h6,hl,hm,fun i z hz=>?_⟩,fun z hz=>?_⟩,.inr ⟨_,_,by rw [hx],by simp,?_⟩⟩
  ·obtain⟨_,hs,hb,hc⟩:=hq i z hz
   exact⟨b,o,by rw [hs],hb,hc⟩
  ·obtain⟨i,h7⟩:=List.mem_iff_getElem?.1 hz
   exact(hq i z h7).1
  ·intro h3
   simp only [List.length_map,List.length_range]
   rw [hmm,if_pos (h3 _)]
theorem Rn{t e:TypeId}{α:Type}{cells:α→List Value}{ok:α→Prop}{v:Value}{k fuel:Nat}{x:DataW H×List MemPlace}(ht:P.underlying t=some (.slice e))(hk:P.cellsOf e=k)(hk0:0 <k)(hel:∀(m:Nat) (cs:List Value) (y:DataW H×List MemPlace),DataW.trod enc P w base spare held m e cs=some y→∃z:α,cs=cells z∧ok z)(h:DataW.trod enc P w base spare held fuel t [v]=some x):
 ∃A n c,v= .slice A n c∧(∃xs:List α,ab w w.heap.size A n c cells k xs∧∀z∈xs,ok z)∧
  ((A=none∧n=0∧c=0∧x.1= .nil)∨∃elems sp,x.1= .slice elems sp∧elems.length=n∧((∀b,spare b=true)→sp.length=c-n)):=by
 obtain⟨A,n,c,rfl⟩:∃A n c,v= .slice A n c:=by
  rcases DataW.trod_slice ht h with⟨hc,_⟩|⟨a,len,cap,_,_,_,_,hc,_⟩
  ·simp only [List.cons.injEq,and_true]at hc;exact⟨_,_,_,hc⟩
  ·simp only [List.cons.injEq,and_true]at hc;exact⟨_,_,_,hc⟩
 exact⟨A,n,c,rfl,j0v ht hk hk0 hel h⟩
theorem c0n{ts:List TypeId}{ds:List (DataW H)}(h:(DataW.weightsEach P ts ds).all (· ≤reachBytes)=true){j:Nat}{t:TypeId}{fs:Array Field}{parts:List (DataW H)}(ht:ts[j]?=some t)(hd:ds[j]?=some (.agg parts))(hu:P.underlying t=some (.struct fs)):(DataW.weightsEach P (fs.toList.map (·.type)) parts).all (· ≤reachBytes)=true:=by rw [List.all_eq_true];intro n hn;exact List.all_eq_true.1 h _ (DataW.weights_mem_each ht hd n (by simpa [DataW.weights,hu]using hn))
theorem s0e{t:TypeId}(ht:P.underlying t=some .string):∀(m:Nat) (cs:List Value) (y:DataW H×List MemPlace),DataW.trod enc P w base spare held m t cs=some y→∃z:ByteArray,cs=[.string z]∧z.size≤maxLen:=by intro m cs y h;obtain⟨n,hc,_,hw⟩:=DataW.trod_string ht h;exact⟨n,hc,hw⟩
theorem Vu{t:TypeId}{fs:Array Field}(ht:P.underlying t=some (.struct fs))(hone:oneCellFields P fs=true)(hC:P.cellsOf t=fs.size){m:Nat}{cs:List Value}{y:DataW H×List MemPlace}(h:DataW.trod enc P w base spare held m t cs=some y):
 cs.length=fs.size∧∃ys:List (DataW H×List MemPlace),ys.length=fs.size∧y=(.agg (ys.map (·.1)),ys.flatMap (·.2))∧
  ∀(j:Nat) (f:Field),fs[j]?=some f→∃(v:Value) (z:DataW H×List MemPlace) (n:Nat),cs[j]?=some v∧ys[j]?=some z∧DataW.trod enc P w base spare held n f.type [v]=some z:=by
 obtain⟨ys,n,_,hy,hl,h3,hf⟩:=DataW.trod_struct ht h
 refine⟨hl.trans hC,ys,h3,hy,fun j f hj=>?_⟩
 obtain⟨ho,hk⟩:=hone_of hone j f hj
 have h4:j <fs.size:=(Array.getElem?_eq_some_iff.1 hj).1
 have h0:j <cs.length:=by omega
 have h1:=hf j f hj
 rw [ho,hk,List.drop_eq_getElem_cons h0]at h1
 have h2:ys[j]?=some (ys[j]'(by omega)):=gE (by omega)
 exact⟨cs[j],_,n,gE h0,h2,by rw [←h2,←h1];rfl⟩
end
section
variable {α:Type} {l:List α}
theorem Tg{a b:α}(hl:l.length=2)(h0:l[0]?=some a)(h1:l[1]?=some b):l=[a,b]:=by
 match l,hl with
 | [x,y],_=>simp at h0 h1;rw [h0,h1]
end
end
section
open Go.RowKit
structure ed(w w':World)(base:Nat)(row:Option Nat):Prop where
 grown:w.grownBy w' row
 base_le:base≤w.heap.size
 row_ge:∀k,row=some k→base≤k
theorem ed.below{w0 w w':World}{base B:Nat}{row:Option Nat}(h:ed w w' base row)(hB:B≤base)(hb:Below B w0 w):Below B w0 w':=
 hb.grown h.grown (Nat.le_trans hB h.base_le) (fun k hk=>Nat.le_trans hB (h.row_ge k hk))
theorem ed.size{w w':World}{base:Nat}{row:Option Nat}(h:ed w w' base row):w.heap.size≤w'.heap.size:=h.grown.size
theorem j0m{w:World}{base:Nat}{e:TypeId}{size n:Nat}{v:Value}{xs:List Value}(h:w.ownsRow base e size v n xs):∀k,v.ownBlock=some k→base≤k:=fun k hk=>(h.lt k hk).1
section
variable {P:Program} {w:World} {ops:Array Oper} {rest:List Oper} {o:Oper} {a:Act} {Q:Exit→Act→World→Prop}
theorem Mc(hgd:o.guard=none){s x:Operand}{t:TypeId}(ho:o.op= .call {callee:=.builtin .append,args:= #[s,x],argTypes:= #[t,t]})
 {e:TypeId} {z:Value} {size bytes:Nat} (ht:P.underlying t=some (.slice e)) (hinfo:(P.info? e).map (fun i=>(i.zero,i.size,i.bytes))=some (some z,size,bytes)) (hzs:z.cells.size=size) (hsz:0 <size)
 {base:Nat} {v:Value} {n:Nat} {xs:List Value} (hown:w.ownsRow base e size v n xs) (hs:a.eval s=v) (hbase:base≤w.heap.size)
 {c:Nat} {news:Array Value} {e':TypeId} (hx:a.eval x= .slice (some ⟨w.heap.size,0,none⟩) 1 c) (hl:news.size=size) (h1:∀u∈news.toList,u.oneCell'=true)
 (h63:n+1≤maxLen) (hbytes:(n+1)*bytes≤140737488355328)
 (h:∀v' w',w'.ownsRow base e size v' (n+1) (xs++news.toList)→ed w w' base v.ownBlock→(v'.ownBlock=v.ownBlock∨v'.ownBlock=some (w.heap.size+1))→wpList P ops Q rest (a.put o.dst v') w'):
 wpList P ops Q (o::rest) a (w.alloc (.cells news e')):=by
 refine wpList_plain hgd fun K hK=>?_
 obtain⟨i,hi,h6,h4,h7⟩:=info_parts hinfo
 obtain⟨v',w',h0,h2,h3,_,h5⟩:=run_append_own_at (P:=P) (w:=w.alloc (.cells news e')) base t o.type e i z size bytes ht hi h6 h4 h7 hzs hsz v n xs (hown.alloc _)
  ⟨w.heap.size,0,none⟩ 1 c news.toList (by simpa using hl) (fun j u hu=>by
  rw [show(Addr.add ⟨w.heap.size,0,none⟩ j)=⟨w.heap.size,j,none⟩ by rw [ms];simp]
  rw [World.cell?_alloc_at _ _ _ _ rfl]
  simpa using hu) h1 h63 hbytes (by simp;omega)
 unfold Oper.wp execOp
 simp only [ho,resolve,invoke,builtin,Sem.run_bind,Sem.run_pure,Result.andThen_ok,List.map_toArray,List.map_cons,List.map_nil,hs,hx,h0]
 refine hK _ _ (h v' w' h2 ⟨?_,hbase,j0m hown⟩ (by simpa using h5))
 refine⟨h3.os,h3.tape,h3.output,Nat.le_trans (by simp) h3.size,fun k hk hne=>?_⟩
 exact(h3.block k (by simp;omega) hne).trans (Below.heap_alloc _ _ _ hk)
theorem d0z{base:Nat}{e:TypeId}{v:Value}{n:Nat}{xs:List Int}{src dst:TypeId}(hs:P.underlying src=some (.slice e))(he:P.underlying e=some (.int .u8))(hd:P.underlying dst=some .string)(hown:w.ownsRow base e 1 v n (xs.map (Value.int .u8))):(convert src dst v).run P w= .ok (.string (strOfNums xs)) w:=by
 have hl:xs.length=n:=by have:=hown.1;simpa using this
 rcases hown.2 with⟨rfl,rfl⟩|⟨g,cap,cur,rfl,_,hh,hnc,hcap,hsz,hcur⟩
 ·have:xs=[]:=List.eq_nil_of_length_eq_zero hl;subst this;rw [run_convert_bytes_nil w src e hs he 0 0 dst hd];rfl
 ·refine run_convert_bytes_arg w src e hs he g 0 n cap xs hl (fun i hi=>?_) dst hd;have h1:=hown.cellAt i (by omega);rw [Nat.zero_add,h1];have h0:i <xs.length:=by omega
  simp [gE h0]
theorem uq{e:TypeId}{src dst:TypeId}(hs:P.underlying src=some (.slice e))(he:P.underlying e=some (.int .u8))(hd:P.underlying dst=some .string)(x:Int):∀(W:World) (b c:Nat),W.cell? ⟨b,0,none⟩=some (.int .u8 x)→(convert src dst (.slice (some ⟨b,0,none⟩) 1 c)).run P W= .ok (.string (strOfNums [x])) W:=fun W b c h=>
 run_convert_bytes_arg W src e hs he b 0 1 c [x] rfl (fun i hi=>by
   have:i=0:=by omega
   subst this
   simpa using h) dst hd
theorem fq(xs ys:List Int)(h:xs.length+ys.length≤9223372036854775807):∀W:World,(Op.stringOp .add (strOfNums xs) (strOfNums ys)).run P W= .ok (.string (strOfNums (xs++ys))) W:=fun W=>by rw [run_string_add_sum _ _ _ (by rw [strOfNums_size,strOfNums_size];exact h)];congr 2;apply ByteArray.ext;simp [strOfNums,ByteArray.data_append]
theorem Ma(hgd:o.guard=none){src dst:TypeId}{x:Operand}(ho:o.op= .convert src dst x){e:TypeId}(hs:P.underlying src=some (.slice e))(he:P.underlying e=some (.int .u8))(hd:P.underlying dst=some .string){base:Nat}{v:Value}{n:Nat}{xs:List Int}(hown:w.ownsRow base e 1 v n (xs.map (Value.int .u8)))(hx:a.eval x=v)(h:wpList P ops Q rest (a.put o.dst (.string (strOfNums xs))) w):wpList P ops Q (o::rest) a w:=by
 refine wpList_plain hgd fun K hK=>?_
 have hr:=d0z (P:=P) hs he hd hown;unfold Oper.wp execOp;simp only [ho,hx,Sem.run_bind,hr,Result.andThen_ok,Sem.run_pure];exact hK _ _ h
end
theorem Bk(O:List Int)(i j:Nat):(strOfNums O).extract i j=strOfNums ((O.drop i).take (j-i)):=by apply ByteArray.ext;simp only [ByteArray.data_extract,strOfNums];apply Array.ext';simp [List.map_drop,List.map_take]
theorem b0x(O:List Int)(i:Nat):(strOfNums O).extract i O.length=strOfNums (O.drop i):=by rw [Bk,List.take_of_length_le (by simp)]
theorem yp{P:Program}{t:TypeId}(ht:P.underlying t=some .string)(s:ByteArray)(x y:Nat)(h1:x≤y)(h2:y≤s.size):∀W:World,(Instr.sliceAt t (.string s) (some (.int .i64 (x:Int))) (some (.int .i64 (y:Int))) none).run P W= .ok (.string (s.extract x y)) W:=fun W=>by simp [Instr.sliceAt,Instr.slice,Instr.sliceBounds,Instr.sliceBound,go_sem,h1,h2,run_underlying ht]
theorem lf{P:Program}{t:TypeId}(ht:P.underlying t=some .string)(s:ByteArray)(x:Int)(p:Nat)(b:Int)(hx:x=(p:Int))(hp:p <s.size)(hb:(((s[p]'hp).toNat:Nat):Int)=b):∀W:World,(Instr.index t (.string s) (.int .i64 x)).run P W= .ok (.int .u8 b) W:=fun W=>by subst hx;rw [run_index_string (P:=P) W t s .i64 (p:Int) ht,dif_pos ⟨by omega,by omega⟩];subst hb;rfl
end
section
open Go.RowKit Go.PlainAid
theorem l9(s:ByteArray)(a b i:Nat)(h:a+i <b)(hb:b≤s.size):bt (s.extract a b) i=bt s (a+i):=by
 unfold bt;have h1:i < (s.extract a b).size:=by rw [ByteArray.size_extract];omega
 rw [dif_pos h1,dif_pos (by omega),ByteArray.getElem_extract]
theorem mn(s:ByteArray)(a b:Nat)(hb:b≤s.size):(s.extract a b).size=b-a:=by rw [ByteArray.size_extract];omega
theorem Ak(f g:Nat→Int):∀(k:Nat),(∀i,i <k→f i=g i)→beF f k=beF g k
 |0,_=>rfl
 |k+1,h=>by simp only [beF];rw [Ak f g k (fun i hi=>h i (by omega)),h k (by omega)]
def btL(s:ByteArray)(k:Nat):List Int:=(List.range k).map (bt s)
theorem Xt(s:ByteArray)(k:Nat):btL s (k+1)=btL s k++[bt s k]:=by simp [btL,List.range_succ]
theorem Va(f:Nat→Int)(h0:∀j,0≤f j)(h1:∀j,f j≤255):cb 4 (beF f 4)=[f 0,f 1,f 2,f 3]:=by have a0:=h0 0;have a1:=h0 1;have a2:=h0 2;have a3:=h0 3;have b0:=h1 0;have b1:=h1 1;have b2:=h1 2;have b3:=h1 3;simp only [cb,beF];simp only [Int.reducePow,List.cons.injEq,and_true];refine⟨by omega,by omega,by omega,by omega⟩
theorem Vb(f:Nat→Int)(h0:∀j,0≤f j)(h1:∀j,f j≤255):cb 2 (beF f 2)=[f 0,f 1]:=by have a0:=h0 0;have a1:=h0 1;have b0:=h1 0;have b1:=h1 1;simp only [cb,beF];simp only [Int.reducePow,List.cons.injEq,and_true];refine⟨by omega,by omega⟩
theorem Bj(s:ByteArray):strOfNums (btL s s.size)=s:=by
 apply ByteArray.ext;apply Array.ext';simp only [strOfNums,btL,List.map_map];apply List.ext_getElem?;intro i;by_cases hi:i <s.size
 ·rw [List.getElem?_map,List.getElem?_range hi]
  have h1:s.data.toList[i]?=some (s[i]'hi):=by rw [gE (by simpa using hi)];rfl
  rw [h1];simp only [Option.map_some,Function.comp];congr 1;unfold bt;rw [dif_pos hi];simp
 ·rw [List.getElem?_eq_none (by simp;omega),List.getElem?_eq_none (by simpa using hi)]
theorem Ed(s:ByteArray)(k:Nat):(btL s k).length=k:=by simp [btL]
theorem yf{a b:ByteArray}(h:a.toList=b.toList):a=b:=by rw [Go.Lib.toList_data,Go.Lib.toList_data]at h;exact ByteArray.ext (Array.ext' h)
theorem me{a b:ByteArray}(h:a≠b):(a.toList==b.toList)=false:=bF fun e=>h (yf e)
theorem Ny{a b:ByteArray}(h:a=b):(a.toList==b.toList)=true:=by rw [h];exact beq_self_eq_true _
end
section
open Go.RowKit
abbrev W32:=BitVec 32
def tk:W32:=0x82f63b78#32
def Ab:W32:=0x1edc6f41#32
def ju(c:W32):W32:=if c.getLsbD 0 then(c>>>1)^^^tk else c>>>1
def jp:Nat→W32→W32
 |0,c=>c
 |k+1,c=>ju (jp k c)
def tj(c:W32):W32:=if c.getLsbD 31 then(c <<<1)^^^Ab else c <<<1
def turn(c:W32):W32:=c.reverse
theorem Bm(c:W32)(i:Nat)(_:i <32):(ju c).getLsbD i=(c.getLsbD (i+1)^^(c.getLsbD 0&&tk.getLsbD i)):=by
 unfold ju;cases hc:c.getLsbD 0
 ·simp [BitVec.getLsbD_ushiftRight,Nat.add_comm]
 ·simp [BitVec.getLsbD_ushiftRight,Nat.add_comm]
theorem O5(a b:W32):ju (a^^^b)=ju a^^^ju b:=by apply BitVec.eq_of_getLsbD_eq;intro i hi;rw [BitVec.getLsbD_xor,Bm _ _ hi,Bm _ _ hi,Bm _ _ hi,BitVec.getLsbD_xor,BitVec.getLsbD_xor];cases a.getLsbD (i+1)<;>cases b.getLsbD (i+1)<;>cases a.getLsbD 0<;>cases b.getLsbD 0<;>cases tk.getLsbD i<;>rfl
theorem c0c(k:Nat)(a b:W32):jp k (a^^^b)=jp k a^^^jp k b:=by
 induction k with
 |zero=>rfl
 |succ k ih=>simp only [jp,ih,O5]
theorem pq:∀i:Nat,i <32→Ab.getLsbD i=tk.getLsbD (31-i):=by decide
theorem oe(c:W32)(i:Nat)(h:i <32):(turn c).getLsbD i=c.getLsbD (31-i):=by unfold turn;rw [BitVec.getLsbD_reverse,BitVec.getMsbD_eq_getLsbD];simp [h]
theorem Nk(c:W32):turn (ju c)=tj (turn c):=by
 apply BitVec.eq_of_getLsbD_eq;intro i hi;rw [oe _ _ hi,Bm _ _ (by omega)];have h1:(turn c).getLsbD 31=c.getLsbD 0:=by rw [oe _ _ (by omega)]
 unfold tj;rw [h1]
 have hs:((turn c) <<<1).getLsbD i=c.getLsbD (31-i+1):=by
  rw [BitVec.getLsbD_shiftLeft];by_cases h0:i=0
  ·subst h0;simp
  ·rw [oe _ _ (by omega),show 31- (i-1)=31-i+1 by omega];simp [hi];omega
 cases hc:c.getLsbD 0
 ·simp [hs]
 ·simp [hs,pq i hi]
theorem a0w(c:W32):turn (turn c)=c:=by apply BitVec.eq_of_getLsbD_eq;intro i hi;rw [oe _ _ hi,oe _ _ (by omega),show 31- (31-i)=i by omega]
theorem a0v(a b:W32):turn (a^^^b)=turn a^^^turn b:=by apply BitVec.eq_of_getLsbD_eq;intro i hi;rw [oe _ _ hi,BitVec.getLsbD_xor,BitVec.getLsbD_xor,oe _ _ hi,oe _ _ hi]
theorem c0d(k:Nat)(hk:k≤8)(c:W32)(h:∀i,i <8→c.getLsbD i=false):jp k c=c>>>k:=by
 induction k with
 |zero=>simp [jp]
 |succ k ih=>
  have:=ih (by omega);simp only [jp,this];unfold ju;have h0:(c>>>k).getLsbD 0=false:=by rw [BitVec.getLsbD_ushiftRight];exact h _ (by omega)
  rw [h0];simp [BitVec.shiftRight_add]
theorem c0e(c:W32):jp 8 c=(c>>>8)^^^jp 8 (c&&&0xff#32):=by
 have e:c=(c&&&0xffffff00#32)^^^(c&&&0xff#32):=by
  apply BitVec.eq_of_getLsbD_eq;intro i hi;have:∀i:Nat,i <32→(0xffffff00#32:W32).getLsbD i= !(0xff#32:W32).getLsbD i:=by decide
  simp only [BitVec.getLsbD_xor,BitVec.getLsbD_and,this i hi];cases c.getLsbD i<;>cases(0xff#32:W32).getLsbD i<;>rfl
 have h0:∀i,i <8→(c&&&0xffffff00#32).getLsbD i=false:=by
  intro i hi;have:∀i:Nat,i <8→(0xffffff00#32:W32).getLsbD i=false:=by decide
  rw [BitVec.getLsbD_and,this i hi,Bool.and_false]
 have h1:(c&&&0xffffff00#32)>>>8=c>>>8:=by
  apply BitVec.eq_of_getLsbD_eq;intro i hi;have:∀i:Nat,i <24→(0xffffff00#32:W32).getLsbD (8+i)=true:=by decide
  rw [BitVec.getLsbD_ushiftRight,BitVec.getLsbD_ushiftRight,BitVec.getLsbD_and];by_cases h:i <24
  ·rw [this i h,Bool.and_true]
  ·rw [BitVec.getLsbD_of_ge _ _ (by omega),Bool.false_and]
 conv=>lhs;rw [e]
 rw [c0c,c0d 8 ler _ h0,h1]
def Af(c:W32)(b:W32):W32:=jp 8 (c^^^b)
def Ac(f:Nat→W32)(c:W32):Nat→W32
 |0=>c
 |k+1=>Af (Ac f c k) (f k)
def t0s(f:Nat→W32)(c:W32)(n:Nat):W32:= ~~~ (Ac f (~~~ c) n)
def gr(n:Nat):Nat→Nat
 |0=>0
 |k+1=>gr n k*2+n/2^k%2
theorem q0v(n k:Nat):gr n k <2^k:=by
 induction k with
 |zero=>simp [gr]
 |succ k ih=>simp only [gr,Nat.pow_succ];omega
def kd(w:Int):Nat:=if w <0 then 0 else if 64 <w then 64 else w.toNat
theorem u0j(w:Int):kd w≤64:=by unfold kd;split;omega;split<;>omega
def Jr(n:Nat)(w:Int):Nat:=gr n (kd w)
theorem V5(n:Nat):∀(k i:Nat),(gr n k).testBit i=(decide (i <k)&&n.testBit (k-1-i))
 |0,i=>by simp [gr]
 |k+1,0=>by rw [Nat.testBit_zero,gr,show(gr n k*2+n/2^k%2)%2=n/2^k%2 by omega];simp [Nat.testBit_eq_decide_div_mod_eq]
 |k+1,i+1=>by
  rw [Nat.testBit_succ,gr,show(gr n k*2+n/2^k%2)/2=gr n k by omega,V5 n k i];by_cases h:i <k
  ·simp [h,show k- (i+1)=k-1-i by omega]
  ·simp [h]
theorem q0u(c:W32):Jr c.toNat 32=(turn c).toNat:=by
 show gr c.toNat 32=_;apply Nat.eq_of_testBit_eq;intro i;rw [V5,←BitVec.getLsbD,←BitVec.getLsbD];by_cases h:i <32
 ·rw [oe _ _ h];simp [h]
 ·rw [BitVec.getLsbD_of_ge (turn c) i (by omega)];simp [h]
def jv(b:W32)(k:Nat):W32:=(b>>>k)&&&1#32
def r9(c b:W32):Nat→W32
 |0=>c
 |k+1=>ju (r9 c b k^^^jv b k)
theorem c0f(c:W32)(h:c.getLsbD 0=false):ju c=c>>>1:=by unfold ju;rw [h];rfl
theorem Ib(i:Nat):(1#32:W32).getLsbD i=decide (i=0):=by simp [BitVec.getLsbD_one]
theorem g0s(c b:W32)(k:Nat):r9 c b k^^^(b>>>k)=jp k (c^^^b):=by
 induction k with
 |zero=>simp [r9,jp]
 |succ k ih=>
  have e1:(b>>>k)=jv b k^^^((b>>>k)&&&0xfffffffe#32):=by
   apply BitVec.eq_of_getLsbD_eq;intro i hi;have:∀i:Nat,i <32→(0xfffffffe#32:W32).getLsbD i= !(1#32:W32).getLsbD i:=by decide
   simp only [jv,BitVec.getLsbD_xor,BitVec.getLsbD_and,this i hi];cases(b>>>k).getLsbD i<;>cases(1#32:W32).getLsbD i<;>rfl
  have e2:ju ((b>>>k)&&&0xfffffffe#32)=b>>>(k+1):=by
   rw [c0f _ (by rw [BitVec.getLsbD_and];simp),BitVec.shiftRight_add];apply BitVec.eq_of_getLsbD_eq;intro i hi;rw [BitVec.getLsbD_ushiftRight,BitVec.getLsbD_ushiftRight,BitVec.getLsbD_and];by_cases h:1+i <32
   ·have:∀i:Nat,i <31→(0xfffffffe#32:W32).getLsbD (1+i)=true:=by decide
    rw [this i (by omega),Bool.and_true]
   ·rw [BitVec.getLsbD_of_ge (b>>>k) _ (by omega),Bool.false_and]
  simp only [jp,r9,←ih];rw [←e2,←O5];congr 1;conv=>rhs;rw [e1]
  rw [BitVec.xor_assoc]
theorem g0t(c b:W32)(h:b.toNat <256):r9 c b 8=Af c b:=by
 have h1:=g0s c b 8
 have h2:b>>>8=0#32:=by apply BitVec.eq_of_toNat_eq;rw [BitVec.toNat_ushiftRight,Nat.shiftRight_eq_div_pow];simp;omega
 rw [h2,BitVec.xor_zero]at h1;rw [h1];rfl
theorem a0x(b:W32)(k:Nat):jv b k <<<31=turn (jv b k):=by
 apply BitVec.eq_of_getLsbD_eq;intro i hi;rw [oe _ _ hi,BitVec.getLsbD_shiftLeft];simp only [jv,BitVec.getLsbD_and,Ib];by_cases h:i=31
 ·subst h;simp
 ·have:¬31-i=0:=by omega
  simp [this,hi];omega
theorem g0j{k:IntKind}{a:Int}{b:Nat}(h:a=(b:Int)):(Value.int k a)= .int k (b:Int):=by rw [h]
theorem u0k(a:Int):(a <0∧kd a≤0)∨(0≤a∧a≤64∧(kd a:Int)≤a∧a≤(kd a:Int))∨(64 <a∧kd a≤64∧64≤kd a):=by
 unfold kd;split
 ·omega
 ·split<;>omega
theorem Yj(n k:Nat)(hn:n <18446744073709551616):bits .and .u64 ((n:Int)/2^k) 1=((n/2^k%2:Nat):Int):=by
 have h3:n/2^k≤n:=Nat.div_le_self _ _;have e2:((n:Int)/2^k)=((n/2^k:Nat):Int):=by simp
 rw [e2];generalize n/2^k=q at*;rw [w0k _ (by omega) (by omega)];omega
theorem v0r(n k b:Nat)(hn:n <18446744073709551616)(h:bits .and .u64 ((n:Int)/2^k) 1=(b:Int)):n/2^k%2=b:=by rw [Yj n k hn]at h;omega
theorem q0r(n k t E C:Nat)(ht:t=gr n k*2^(C-k))(hE:C-k=E+1)(hk:k <C)(hC:C≤64)(hn:n <18446744073709551616)(hb:(bits .and .u64 ((n:Int)/2^k) 1==1)=true):bits .or .u64 (t:Int) (IntKind.u64.wrap (2^E))=((t+2^E:Nat):Int)∧t+2^E=gr n (k+1)*2^(C- (k+1)):=by
 have h1:=q0v n k
 have h7:2^k*2^(C-k)≤2^64:=by rw [←Nat.pow_add];exact Nat.pow_le_pow_right (by omega) (by omega)
 have h2:gr n k*2^(C-k)+2^(C-k)≤2^k*2^(C-k):=by rw [←Nat.succ_mul];exact Nat.mul_le_mul_right _ h1
 have h5:2^(C-k)=2*2^E:=by rw [hE,Nat.pow_succ,Nat.mul_comm]
 have h0:2^E <18446744073709551616:=by have:0 <2^E:=Nat.two_pow_pos E;omega
 have e1:IntKind.u64.wrap (2^E)=((2^E:Nat):Int):=by
  rw [IntKind.wrap_u64];have:((2:Int)^E)=((2^E:Nat):Int):=by simp
  rw [this];omega
 have h4:=v0r n k 1 hn (by simpa using hb)
 have h6:t+2^E=gr n (k+1)*2^(C- (k+1)):=by simp only [gr];rw [h4,show C- (k+1)=E by omega,ht,h5,Nat.add_mul];rw [show gr n k*(2*2^E)=gr n k*2*2^E by rw [Nat.mul_assoc]];omega
 refine⟨?_,h6⟩
 have h3:t <18446744073709551616:=by have:0 <2^E:=Nat.two_pow_pos E;omega
 rw [e1,u64_or_nat _ _ h3 h0,nat_join (E+1) t (2^E) (by rw [ht,hE];exact Nat.mul_mod_left _ _) (by rw [Nat.pow_succ];have:=Nat.two_pow_pos E;omega)]
theorem q0s(n k t C:Nat)(ht:t=gr n k*2^(C-k))(hk:k <C)(hn:n <18446744073709551616)(hb:(bits .and .u64 ((n:Int)/2^k) 1==1)=false):t=gr n (k+1)*2^(C- (k+1)):=by
 have h4:n/2^k%2=0:=by
  rcases(show n/2^k%2=0∨n/2^k%2=1 by omega)with h|h
  ·exact h
  ·rw [Yj n k hn,h]at hb;simp at hb
 simp only [gr];rw [h4,ht,show C-k=(C- (k+1))+1 by omega,Nat.pow_succ,Nat.mul_comm _ 2,←Nat.mul_assoc];simp
theorem q0t(n:Nat)(a:Int)(w:World)(hn:n <18446744073709551616)(h0: -9223372036854775808≤a)(h1:a≤9223372036854775807):Calls Tryz.prog 158 #[.int .u64 n,.int .i64 a] w fun e w'=>e= .returned (.int .u64 (Jr n a))∧w=w':=by
 rcases u0k a with⟨ha,hb⟩|⟨ha,ha',hb,hb'⟩|⟨ha,hb,hb'⟩
 all_goals
  have h2:=u0j a;go_enter Tryz.func158,Tryz.ntmps158;go_wp2;go_loop [5,12] (fun v5 v12=>∃k t:Nat,k≤kd a∧Hid (t=gr n k*2^(kd a-k))∧v12= .int .i64 k∧v5= .int .u64 t) (fun _ v12=>kd a- (intOf v12).toNat)
  case atStart=>exact⟨0,0,zl,by simp [Hid,gr],rfl,rfl⟩
  case round=>
   obtain⟨k,t,hk,ht,rfl,rfl⟩:=hrel;by_cases hlt:k <kd a
   ·go_wp2
    all_goals try(exfalso;omega)
    all_goals
     first
     |(have hb:(bits .and .u64 ((n:Int)/2^k) 1==1)=true:=by assumption
       go_round
       case rel=>
        have Y:=q0r n k t (kd a-1-k) (kd a) ht.o (by omega) (by omega) (by omega) hn hb
        exact⟨k+1,_,by omega,Y.2,by go_num,g0j (by rw [←Y.1];first|rfl|(congr 3;omega))⟩
       case measure=>simp [intOf];omega)
     |(have hb:(bits .and .u64 ((n:Int)/2^k) 1==1)=false:=by assumption
       go_round
       case rel=>exact⟨k+1,t,by omega,q0s n k t (kd a) ht.o (by omega) hn hb,by go_num,rfl⟩
       case measure=>simp [intOf];omega)
   ·go_wp2;go_ret;exact⟨ax (by rw [ht.o,show k=kd a by omega];simp [Jr]),rfl⟩
def v32(c:W32):Int:=c.toNat
theorem md(c:W32):0≤v32 c∧v32 c≤4294967295:=by have:=c.isLt;unfold v32;omega
theorem S1(c:W32):BitVec.ofInt IntKind.u32.bits (v32 c)=c:=by show BitVec.ofInt 32 (c.toNat:Int)=c;rw [BitVec.ofInt_natCast,BitVec.ofNat_toNat];simp
theorem M7(c:W32):IntKind.u32.wrap (v32 c)=v32 c:=by have:=md c;rw [IntKind.wrap_u32];omega
theorem ub(a b:W32):bits .xor .u32 (v32 a) (v32 b)=v32 (a^^^b):=by unfold bits;simp only [S1];exact M7 _
theorem w0h(a b:W32):bits .and .u32 (v32 a) (v32 b)=v32 (a&&&b):=by unfold bits;simp only [S1];exact M7 _
theorem Ga(a:W32)(k:Nat):v32 a/((2^k:Nat):Int)=v32 (a>>>k):=by unfold v32;rw [BitVec.toNat_ushiftRight,Nat.shiftRight_eq_div_pow,Int.natCast_ediv]
theorem Oc(a:W32)(k:Nat):v32 a*((2^k:Nat):Int)%4294967296=v32 (a <<<k):=by unfold v32;rw [BitVec.toNat_shiftLeft,Nat.shiftLeft_eq];omega
theorem w0p(c:W32):bits .and .u32 (v32 c) 1=if c.getLsbD 0 then 1 else 0:=by
 have h:=w0h c 1#32;rw [show v32 1#32=1 from rfl]at h;rw [h]
 have:c&&&1#32=if c.getLsbD 0 then 1#32 else 0#32:=by
  apply BitVec.eq_of_getLsbD_eq;intro i hi;rw [BitVec.getLsbD_and];by_cases h0:i=0
  ·subst h0;cases c.getLsbD 0<;>rfl
  ·have:(1#32).getLsbD i=false:=by simp [BitVec.getLsbD_one];omega
   rw [this];split<;>simp [h0]
 rw [this];split<;>rfl
theorem O7(c:W32)(w:World):Calls Tryz.prog 156 #[.int .u32 (v32 c)] w fun e w'=>e= .returned (.int .u32 (v32 (ju c)))∧w=w':=by
 have hb:=md c;have h1:=w0p c;have h2:=Ga c 1;have h3:=ub (c>>>1) tk;rw [show v32 tk=2197175160 from rfl]at h3;cases hc:c.getLsbD 0
 ·have F:ju c=c>>>1:=by unfold ju;rw [hc];rfl
  rw [hc]at h1;simp at h1 h2;go_enter Tryz.func156,Tryz.ntmps156;go_wp2;go_ret;exact⟨by rw [F];rfl,rfl⟩
 ·have F:ju c=(c>>>1)^^^tk:=by unfold ju;rw [hc];rfl
  rw [hc]at h1;simp at h1 h2;go_enter Tryz.func156,Tryz.ntmps156;go_wp2;go_ret;exact⟨by rw [F];rfl,rfl⟩
def uh(i:Nat):Value:=.int .u32 (v32 (jp 8 (BitVec.ofNat 32 i)))
def ic(k:Nat):Array Value:=((List.range 256).map fun i=>if i <k then uh i else .int .u32 0).toArray
theorem uj(k:Nat):(ic k).size=256:=by simp [ic]
theorem yd(k i:Nat)(h:i <256):(ic k)[i]?=some (if i <k then uh i else .int .u32 0):=by simp [ic,h]
theorem b0f(k:Nat)(h:k <256):(ic k).setIfInBounds k (uh k)=ic (k+1):=by
 apply Array.ext_getElem?;intro i;by_cases hi:i <256
 ·rw [yd _ _ hi,Array.getElem?_setIfInBounds];by_cases hk:k=i
  ·subst hk;simp [uj,h]
  ·rw [if_neg hk,yd _ _ hi];by_cases h1:i <k
   ·rw [if_pos h1,if_pos (by omega)]
   ·rw [if_neg h1,if_neg (by omega)]
 ·have h1:=uj k;have h2:=uj (k+1);rw [Array.getElem?_eq_none (by simp;omega),Array.getElem?_eq_none (by omega)]
theorem a0f(k:Nat)(h:k <4294967296):v32 (BitVec.ofNat 32 k)=(k:Int):=by unfold v32;rw [BitVec.toNat_ofNat];omega
theorem b0e:ic 0=Array.replicate 256 (.int .u32 0):=by
 apply Array.ext_getElem?;intro i;by_cases hi:i <256
 ·rw [yd _ _ hi];simp [hi]
 ·have h1:=uj 0;rw [Array.getElem?_eq_none (by omega),Array.getElem?_eq_none (by simp;omega)]
theorem Lz(w:World):(zeroValue 221).run Tryz.prog w= .ok (.agg (ic 0)) w:=by rw [b0e];kernel_rfl
theorem d0b(w:World)(g i:Nat)(cs:Array Value)(t:TypeId)(fr:Nat×Nat)(v:Value)(h:w.heap[g]?=some (.cells cs t fr)):(w.setCell ⟨g,i,none⟩ v).heap[g]?=some (.cells (cs.setIfInBounds i v) t fr):=by have hg:g <w.heap.size:=(Array.getElem?_eq_some_iff.1 h).1;simp only [World.setCell,Array.getElem?_modify,h];simp
theorem Nt(w:World)(g i:Nat)(cs:Array Value)(t:TypeId)(fr:Nat×Nat)(h:w.heap[g]?=some (.cells cs t fr)):w.cell? ⟨g,i,none⟩=cs[i]?:=by unfold World.cell?;simp [h]
theorem e0y(w:World)(g i:Nat)(cs:Array Value)(t:TypeId)(h:w.heap[g]?=some (.cells cs t (0,0))):w.frozen? ⟨g,i,none⟩=false:=by unfold World.frozen?;simp [h]
theorem a0n:Tryz.prog.underlying 221=some (.array 256 167):=by kernel_rfl
theorem U7(k:Nat):(Tryz.prog.info? 221).map (·.size)=some (ic k).size:=by rw [uj];kernel_rfl
theorem b0d(w:World):Calls Tryz.prog 143 #[] w fun e w'=>e= .returned (.agg (ic 256))∧Below w.heap.size w w':=by
 go_enter Tryz.func143,Tryz.ntmps143;have hz:=Lz w;go_wp2;go_loopw [3] (fun v3 wr=>∃k:Nat,k≤256∧v3= .int .i64 k∧wr.heap[w.heap.size]?=some (.cells (ic k) 221 (0,0))∧Below w.heap.size w wr) (fun v3 _=>256- (intOf v3).toNat)
 case atStart=>exact⟨0,by omega,rfl,A_ _ _,br.alloc ler _⟩
 case round=>
  obtain⟨k,hk,rfl,h0,hb⟩:=hrel;by_cases hlt:(k:Int) <256
  ·go_wp2;go_loop [2,8] (fun v2 v8=>∃(j:Nat) (c:W32),j≤8∧v8= .int .i64 j∧v2= .int .u32 (v32 c)∧Hid (c=jp j (BitVec.ofNat 32 k))) (fun _ v8=>8- (intOf v8).toNat)
   case atStart=>exact⟨0,BitVec.ofNat 32 k,by omega,rfl,by rw [a0f k (by omega)],rfl⟩
   case round=>
    obtain⟨j,c,hj,rfl,rfl,hc⟩:=hrel;by_cases hj8:(j:Int) <8
    ·go_wp2_with(go_at_call 156;refine(O7 _ _).mono ?_;rintro e w' ⟨rfl,rfl⟩);go_round
     case rel=>exact⟨j+1,_,by omega,by go_num,rfl,by simp only [Hid];rw [hc.o];rfl⟩
     case measure=>simp [intOf];omega
    ·have h5:=e0y wr w.heap.size k _ _ h0;have h3:=Nt wr w.heap.size k _ _ _ h0;rw [yd _ _ (by omega),if_neg (Nat.lt_irrefl _)]at h3;have h1:=d0b wr w.heap.size k _ _ _ (.int .u32 (v32 c)) h0;have h2:Value.int .u32 (v32 c)=uh k:=by rw [hc.o,show j=8 by omega];rfl
     have HS:Hid ((wr.setCell ⟨w.heap.size,k,none⟩ (.int .u32 (v32 c))).heap[w.heap.size]?=some (.cells (ic (k+1)) 221 (0,0))):=by simp only [Hid];rw [h1,h2,b0f _ (by omega)]
     clear h1 h2;go_wp2;go_roundw
     case rel=>exact⟨k+1,by omega,by go_num,HS.o,hb.setCell ler _⟩
     case measure=>simp [intOf];omega
  ·obtain rfl:k=256:=by omega
   have hu:=h_ a0n;have hi:=h_ (U7 256)
   have h4:Hid ((ic 256).all (·.oneCell')=true):=by simp only [Hid,ic,uh];simp [Value.oneCell'];intro x hx;simp [hx]
   go_wp2_with(first
    |(refine wpList_load_row rfl _ _ rfl w.heap.size rfl _ (ic 256) (0,0) _ h0 hu.o rfl hi.o ?_)
    |(refine wpList_store_rowTo rfl _ _ _ rfl rfl w.heap.size (ic 256) rfl rfl _ (ic 256) h0 hi.o rfl h4.o ?_;rw [setRow_self _ _ _ _ _ h0]))
   refine bodyPost_ret (results_cell_row rfl _ _ _ _ _ _ _ rfl h0 hu.o rfl hi.o) rfl ?_;exact⟨rfl,hb⟩
end
end Go.Proofs.YtcldpfhpkbeaiadGreat
