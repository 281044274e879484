/- A part of the proof of FsMounts. No condition of ours. -/
import Derived.Test.YtcldpfhpkbeaiadGreatFsMounts03
import Derived.ArgAppend
import Derived.Laws.IdiomStrings
import Derived.Laws.IdiomCopy
import Derived.Lib.LazyBuf
import Derived.Deep.RegionHeld3
set_option maxRecDepth 20000
set_option maxHeartbeats 1000000
namespace Go.Proofs.YtcldpfhpkbeaiadGreat
open Go.RowKit Go.PlainAid
def af(w:World)(base size:Nat)(v:Value)(n:Nat)(xs:List Value):Prop:=
 xs.length=n*size∧((v= .slice none 0 0∧n=0)∨∃g off cap,v= .slice (some ⟨g,off,none⟩) n cap∧base≤g∧g <w.heap.size∧n≤cap∧cap≤maxLen∧
 (∀(j:Nat) (u:Value),xs[j]?=some u→w.cell? ⟨g,off+j,none⟩=some u)∧∀j,j <cap*size→(w.cell? ⟨g,off+j,none⟩).isSome=true∧w.frozen? ⟨g,off+j,none⟩=false)
section
variable {w w':World} {base size n:Nat} {v:Value} {xs:List Value}
theorem af.nil(w:World)(base size:Nat):af w base size (.slice none 0 0) 0 []:=⟨by simp,.inl ⟨rfl,rfl⟩⟩
theorem af.form(h:af w base size v n xs):∃A c,v= .slice A n c:=by
 rcases h.2 with⟨rfl,rfl⟩|⟨g,off,cap,rfl,_⟩
 ·exact⟨none,0,rfl⟩
 ·exact⟨_,_,rfl⟩
theorem af.of_row{e:TypeId}(h:w.ownsRow base e size v n xs):af w base size v n xs:=by
 refine⟨h.1,?_⟩;rcases h.2 with h0|⟨g,cap,cur,hv,hb,hh,hnc,hcm,hcs,ht⟩
 ·exact .inl h0
 ·have hg:g <w.heap.size:=by
   rcases Nat.lt_or_ge g w.heap.size with hlt|hge
   ·exact hlt
   ·rw [Array.getElem?_eq_none hge]at hh;cases hh
  subst hv;refine .inr ⟨g,0,cap,rfl,hb,hg,hnc,hcm,fun j u hu=>?_,fun j hj=>⟨?_,?_⟩⟩
  ·have hj:j <n*size:=by rw [←h.1];exact(gS.1 hu).1
   rw [Nat.zero_add,h.cellAt j hj];exact hu
  ·rw [Nat.zero_add,cell_of_row w g j cur e (0,0) hh];have:j <cur.size:=by omega
   simp [this]
  ·rw [Nat.zero_add];exact h.frozenAt j
theorem af.kept(h:af w base size v n xs)(hb:∀g,v.ownBlock=some g→w'.heap[g]?=w.heap[g]?)(hs:w.heap.size≤w'.heap.size):af w' base size v n xs:=by
 refine⟨h.1,?_⟩;rcases h.2 with h0|⟨g,off,cap,rfl,h1,h2,h3,h4,h5,h6⟩
 ·exact .inl h0
 ·have e:=hb g rfl;refine .inr ⟨g,off,cap,rfl,h1,by omega,h3,h4,fun j u hu=>?_,fun j hj=>?_⟩
  ·rw [World.cell?_of_block (w:=w) (a:=⟨g,off+j,none⟩) e];exact h5 j u hu
  ·rw [World.cell?_of_block (w:=w) (a:=⟨g,off+j,none⟩) e,World.frozen?_of_block (w:=w) (a:=⟨g,off+j,none⟩) e];exact h6 j hj
theorem af.lt(h:af w base size v n xs):∀g,v.ownBlock=some g→base≤g∧g <w.heap.size:=by
 intro k hk;rcases h.2 with⟨rfl,_⟩|⟨g,off,cap,rfl,h1,h2,_⟩
 ·simp [Value.ownBlock]at hk
 ·have:g=k:=by simpa [Value.ownBlock]using hk
  subst this;exact⟨h1,h2⟩
theorem af.alloc(h:af w base size v n xs)(o:Obj):af (w.alloc o) base size v n xs:=
 h.kept (fun g hg=>Below.heap_alloc w o g (h.lt g hg).2) (by simp)
theorem af.drew(h:af w base size v n xs):af w.drew base size v n xs:=h
theorem af.drewN(h:af w base size v n xs)(m:Nat):af (w.drewN m) base size v n xs:=h
theorem af.left{base':Nat}{row:Option Nat}(h:af w base size v n xs)(hl:ed w w' base' row)(hne:v.ownBlock=none∨v.ownBlock≠row):af w' base size v n xs:=
 h.kept (fun g hg=>hl.grown.block g (h.lt g hg).2 (by rcases hne with e|e;·rw [e]at hg;cases hg
                                                      ·rw [←hg];exact e)) hl.size
theorem af.below{B:Nat}(h:af w base size v n xs)(hb:Below B w w')(hB:∀g,v.ownBlock=some g→g <B):af w' base size v n xs:=
 h.kept (fun g hg=>hb.block g (hB g hg)) hb.size
theorem af.fresh_below(h:af w base size v n xs)(hb:Below w.heap.size w w'):af w' base size v n xs:=h.below hb fun g hg=>(h.lt g hg).2
theorem af.setOther(h:af w base size v n xs){p:Addr}(hp:v.ownBlock≠some p.block)(u:Value):af (w.setCell p u) base size v n xs:=
 h.kept (fun g hg=>Below.heap_setCell w p u g (fun e=>hp (by rw [hg,e]))) (by simp [World.setCell])
theorem af.more{base':Nat}(h:af w base size v n xs)(hB:base'≤base):af w base' size v n xs:=by
 refine⟨h.1,?_⟩;rcases h.2 with h0|⟨g,off,cap,rfl,h1,h2⟩
 ·exact .inl h0
 ·exact .inr ⟨g,off,cap,rfl,by omega,h2⟩
theorem af.at_(h:af w base size v n xs){j:Nat}{u:Value}(hu:xs[j]?=some u):∃g off cap,v= .slice (some ⟨g,off,none⟩) n cap∧base≤g∧g <w.heap.size∧w.cell? ⟨g,off+j,none⟩=some u∧w.frozen? ⟨g,off+j,none⟩=false:=by
 rcases h.2 with⟨rfl,h0⟩|⟨g,off,cap,rfl,h1,h2,h3,h4,h5,h6⟩
 ·have:=h.1;subst h0;simp at this;subst this;simp at hu
 ·have hj:j <xs.length:=(gS.1 hu).1;have h7:j <cap*size:=Nat.lt_of_lt_of_le (by rw [h.1]at hj;exact hj) (Nat.mul_le_mul_right _ h3);exact⟨g,off,cap,rfl,h1,h2,h5 j u hu,(h6 j h7).2⟩
theorem af.set{g off cap:Nat}(h:af w base size (.slice (some ⟨g,off,none⟩) n cap) n xs)(j:Nat)(u:Value):af (w.setCell ⟨g,off+j,none⟩ u) base size (.slice (some ⟨g,off,none⟩) n cap) n (xs.set j u):=by
 refine⟨by rw [List.length_set];exact h.1,?_⟩;rcases h.2 with⟨e,_⟩|⟨g',off',cap',e,h1,h2,h3,h4,h5,h6⟩
 ·cases e
 ·injection e with e1 e2 e3;injection e1 with e1;injection e1 with e1 e4;subst e1;subst e4;subst e3;refine .inr ⟨g,off,cap,rfl,h1,by simpa [World.setCell]using h2,h3,h4,fun k x hx=>?_,fun k hk=>?_⟩
  ·by_cases hkj:k=j
   ·subst hkj;have hk:k <xs.length:=by have:=(gS.1 hx).1;simpa using this
    rw [List.getElem?_set_self hk]at hx;obtain rfl:u=x:=by simpa using hx
    have hc:=h5 k _ (gE hk);exact World.cell?_setCell_same' _ _ _ (by rw [hc];rfl)
   ·rw [List.getElem?_set_ne (fun e=>hkj e.symm)]at hx;rw [World.cell?_setCell_other w _ _ _ (fun e=>hkj (by injection e with _ e _;omega))];exact h5 k x hx
  ·obtain⟨c1,c2⟩:=h6 k hk;refine⟨?_,?_⟩
   ·by_cases hkj:k=j
    ·subst hkj;rw [World.cell?_setCell_same' _ _ _ c1];rfl
    ·rw [World.cell?_setCell_other w _ _ _ (fun e=>hkj (by injection e with _ e _;omega))];exact c1
   ·rw [World.frozen?_setCell];exact c2
theorem af.ne_of_le(h:af w base size v n xs){g:Nat}(hg:w.heap.size≤g):v.ownBlock≠some g:=fun e=>by have:=(h.lt g e).2;omega
end
section
variable {P:Program} {w:World} {ops:Array Oper} {rest:List Oper} {o:Oper} {a:Act} {Q:Exit→Act→World→Prop}
theorem we{a b c:World}{row:Option Nat}(h:a.grownBy b row)(k:b.grownBy c row):a.grownBy c row:=
 ⟨k.os.trans h.os,k.tape.trans h.tape,k.output.trans h.output,Nat.le_trans h.size k.size,fun i hi hne=>(k.block i (Nat.lt_of_lt_of_le hi h.size) hne).trans (h.block i hi hne)⟩
theorem Jk(b:Nat):∀(vs:List Value) (o:Nat) (w:World),w.grownBy (w.setCells b o vs) (some b)
 | [],_,w=>World.grownBy.refl w _
 |v::r,o,w=>we (b:=w.setCell ⟨b,o,none⟩ v) ⟨rfl,rfl,rfl,by simp [World.setCell],fun k _ hne=>Below.heap_setCell w ⟨b,o,none⟩ v k (fun e=>hne (by rw [e]))⟩ (Jk b r (o+1) (w.setCell ⟨b,o,none⟩ v))
theorem U2(b:Nat):∀(vs:List Value) (o:Nat) (w:World) (x:Addr),(w.cell? x).isSome=true→((w.setCells b o vs).cell? x).isSome=true
 | [],_,_,_,h=>h
 |v::r,o,w,x,h=>U2 b r (o+1) _ x (by
 by_cases e:(⟨b,o,none⟩:Addr)=x
 ·subst e;rw [World.cell?_setCell_same' _ _ _ h];rfl
 ·rw [World.cell?_setCell_other w _ _ _ e];exact h)
theorem n0r{w w':World}{base:Nat}(h:w.grownBy w' none)(hbase:base≤w.heap.size)(row:Option Nat)(hr:∀k,row=some k→base≤k):ed w w' base row:=
 ⟨⟨h.os,h.tape,h.output,h.size,fun k hk _=>h.block k hk (by simp)⟩,hbase,hr⟩
theorem ed.cell{w w':World}{base:Nat}{row:Option Nat}(h:ed w w' base row){p:Addr}{v:Value}(hc:w.cell? p=some v)(hne:row≠some p.block):w'.cell? p=some v:=
 h.grown.cell hc (fun e=>hne e.symm)
theorem yq{t ty e:TypeId}{z:Value}{size bytes:Nat}(ht:P.underlying t=some (.slice e))(hinfo:(P.info? e).map (fun i=>(i.zero,i.size,i.bytes))=some (some z,size,bytes))(hzs:z.cells.size=size)(hsz:0 <size){base:Nat}{v:Value}{n:Nat}{xs:List Value}(hown:af w base size v n xs)(hbase:base≤w.heap.size)(ad:Addr)(m c:Nat)(news:List Value)(hl:news.length=m*size)(hnews:∀j u,news[j]?=some u→w.cell? (ad.add j)=some u)(h1:∀u∈news,u.oneCell'=true)(h63:n+m≤maxLen)(hbytes:(n+m)*bytes≤140737488355328):
 ∃v' w',(Builtin.append_ #[t,t] ty #[v,.slice (some ad) m c]).run P w= .ok v' w'∧af w' base size v' (n+m) (xs++news)∧ed w w' base v.ownBlock∧
  (v'.ownBlock=v.ownBlock∨∀k,v'.ownBlock=some k→w.heap.size≤k):=by
 obtain⟨i,hi,h7,h4,ha⟩:=info_parts hinfo
 have h6:∀k,v.ownBlock=some k→base≤k:=fun k hk=>(hown.lt k hk).1
 rcases hown.2 with⟨rfl,rfl⟩|⟨g,off,cap,rfl,hb,hg,hnc,hcm,hc,hs⟩
 ·have hx:xs=[]:=List.eq_nil_of_length_eq_zero (by simpa using hown.1)
  subst hx
  obtain⟨v',w',h0,h2,h3,_,h5⟩:=run_append_own_at (P:=P) (w:=w) base t ty e i z size bytes ht hi h7 h4 ha hzs hsz _ 0 [] (World.ownsRow_nil w base e size) ad m c news hl hnews h1 h63 hbytes hbase
  refine⟨v',w',h0,af.of_row h2,⟨h3,hbase,h6⟩,?_⟩
  rcases h5 with h5|h5
  ·exact .inl h5
  ·right;intro k hk;rw [h5]at hk;injection hk with hk;omega
 ·by_cases hroom:n+m≤cap
  ·have he:n*size+news.length≤cap*size:=by rw [hl,←Nat.add_mul];exact Nat.mul_le_mul_right _ hroom
   have h9:∀j,j <news.length→(w.cell? ⟨g,off+n*size+j,none⟩).isSome=true:=fun j hj=>by have:=(hs (n*size+j) (by omega)).1;rwa [←Nat.add_assoc]at this
   have hd:∀j,j <news.length→w.frozen? ⟨g,off+n*size+j,none⟩=false:=fun j hj=>by have:=(hs (n*size+j) (by omega)).2;rwa [←Nat.add_assoc]at this
   have h0:=run_append_room_cells (P:=P) w t ty e i ht hi g off n cap ad m c news (by rw [h4];exact hl) hnews h1 hroom (by rw [h4];exact h9) (by rw [h4];exact hd)
   rw [h4]at h0
   refine⟨_,_,h0,⟨by rw [List.length_append,hown.1,hl,Nat.add_mul],.inr ⟨g,off,cap,rfl,hb,?_,hroom,hcm,fun j u hu=>?_,fun j hj=>⟨?_,?_⟩⟩⟩,⟨Jk g news _ w,hbase,h6⟩,.inl rfl⟩
   ·exact Nat.lt_of_lt_of_le hg (Jk g news _ w).size
   ·by_cases hj:j <xs.length
    ·rw [List.getElem?_append_left hj]at hu
     rw [World.cell?_setCells_out g news _ w _ (fun _ _=>by left;show off+j <off+n*size;have:=hown.1;omega)]
     exact hc j u hu
    ·rw [List.getElem?_append_right (by omega)]at hu
     have h8:j-xs.length <news.length:=(gS.1 hu).1
     have:=World.cell?_setCells_in g news (off+n*size) w h9 (j-xs.length) h8
     have e:off+n*size+(j-xs.length)=off+j:=by have:=hown.1;omega
     rw [e]at this
     rw [this,←hu,gE h8]
   ·exact U2 g news _ w _ (hs j hj).1
   ·rw [World.frozen?_setCells];exact(hs j hj).2
  ·obtain⟨v',w',h0,r1,r2⟩:=run_append_arg_grows (P:=P) w t ty e i z size bytes ht hi h7 h4 ha hzs hsz ⟨g,off,none⟩ n cap xs hown.1 (fun j u hu=>by rw [ms];exact hc j u hu) ad m c news hl hnews (by omega) h63 hbytes
   have ho:=af.of_row r1
   exact⟨v',w',h0,ho.more hbase,n0r r2 hbase _ h6,.inr fun k hk=>(ho.lt k hk).1⟩
theorem Ba(hgd:o.guard=none){s x:Operand}{t:TypeId}(ho:o.op= .call {callee:=.builtin .append,args:= #[s,x],argTypes:= #[t,t]})
 {e:TypeId} {z:Value} {size bytes:Nat} (ht:P.underlying t=some (.slice e)) (hinfo:(P.info? e).map (fun i=>(i.zero,i.size,i.bytes))=some (some z,size,bytes)) (hzs:z.cells.size=size) (hsz:0 <size)
 {base:Nat} {v:Value} {n:Nat} {xs:List Value} (hown:af w base size v n xs) (hs:a.eval s=v) (hbase:base≤w.heap.size)
 {ad:Addr} {m c:Nat} (hx:a.eval x= .slice (some ad) m c) (news:List Value) (hl:news.length=m*size) (hnews:∀j u,news[j]?=some u→w.cell? (ad.add j)=some u) (h1:∀u∈news,u.oneCell'=true)
 (h63:n+m≤maxLen) (hbytes:(n+m)*bytes≤140737488355328)
 (h:∀A' c' w',af w' base size (.slice A' (n+m) c') (n+m) (xs++news)→ed w w' base v.ownBlock→(Value.ownBlock (.slice A' (n+m) c')=v.ownBlock∨∀k,Value.ownBlock (.slice A' (n+m) c')=some k→w.heap.size≤k)→wpList P ops Q rest (a.put o.dst (.slice A' (n+m) c')) w'):
 wpList P ops Q (o::rest) a w:=by
 refine wpList_plain hgd fun K hK=>?_
 obtain⟨v',w',h0,h2,h3,h4⟩:=yq (P:=P) (ty:=o.type) ht hinfo hzs hsz hown hbase ad m c news hl hnews h1 h63 hbytes
 unfold Oper.wp execOp
 simp only [ho,resolve,invoke,builtin,Sem.run_bind,Sem.run_pure,Result.andThen_ok,List.map_toArray,List.map_cons,List.map_nil,hs,hx,h0]
 obtain⟨A',c',rfl⟩:=h2.form
 exact hK _ _ (h A' c' w' h2 h3 h4)
theorem dx(hgd:o.guard=none){s x:Operand}{t:TypeId}(ho:o.op= .call {callee:=.builtin .append,args:= #[s,x],argTypes:= #[t,t]})
 {e:TypeId} {z:Value} {size bytes:Nat} (ht:P.underlying t=some (.slice e)) (hinfo:(P.info? e).map (fun i=>(i.zero,i.size,i.bytes))=some (some z,size,bytes)) (hzs:z.cells.size=size) (hsz:0 <size)
 {base:Nat} {v:Value} {n:Nat} {xs:List Value} (hown:af w base size v n xs) (hs:a.eval s=v) (hbase:base≤w.heap.size)
 {c H:Nat} {news:Array Value} {e':TypeId} (hx:a.eval x= .slice (some ⟨H,0,none⟩) 1 c) (hH:w.heap.size=H) (hl:news.size=size) (h1:∀u∈news.toList,u.oneCell'=true)
 (h63:n+1≤maxLen) (hbytes:(n+1)*bytes≤140737488355328)
 (h:∀A' c' w',af w' base size (.slice A' (n+1) c') (n+1) (xs++news.toList)→ed w w' base v.ownBlock→(Value.ownBlock (.slice A' (n+1) c')=v.ownBlock∨∀k,Value.ownBlock (.slice A' (n+1) c')=some k→w.heap.size≤k)→wpList P ops Q rest (a.put o.dst (.slice A' (n+1) c')) w'):
 wpList P ops Q (o::rest) a (w.alloc (.cells news e')):=by
 subst hH
 refine Ba hgd ho ht hinfo hzs hsz (hown.alloc _) hs (by simp;omega) hx news.toList (by simpa using hl) (fun j u hu=>by
  rw [show(Addr.add ⟨w.heap.size,0,none⟩ j)=⟨w.heap.size,j,none⟩ by rw [ms];simp]
  rw [World.cell?_alloc_at _ _ _ _ rfl]
  simpa using hu) h1 h63 hbytes fun A' c' w' h2 h3 h4=>h A' c' w' h2 ⟨?_,hbase,fun k hk=>(hown.lt k hk).1⟩ ?_
 ·exact⟨h3.grown.os,h3.grown.tape,h3.grown.output,Nat.le_trans (by simp) h3.grown.size,fun k hk hne=>(h3.grown.block k (by simp;omega) hne).trans (Below.heap_alloc _ _ _ hk)⟩
 ·rcases h4 with h4|h4
  ·exact .inl h4
  ·right;intro k hk;have:=h4 k hk;simp at this;omega
theorem d0y{base:Nat}{v:Value}{n:Nat}{xs:List Int}{src dst e:TypeId}(hs:P.underlying src=some (.slice e))(he:P.underlying e=some (.int .u8))(hd:P.underlying dst=some .string)(hown:af w base 1 v n (xs.map (Value.int .u8))):(convert src dst v).run P w= .ok (.string (strOfNums xs)) w:=by
 have hl:xs.length=n:=by have:=hown.1;simpa using this
 rcases hown.2 with⟨rfl,rfl⟩|⟨g,off,cap,rfl,_,_,_,_,hc,_⟩
 ·have:xs=[]:=List.eq_nil_of_length_eq_zero hl;subst this;rw [run_convert_bytes_nil w src e hs he 0 0 dst hd];rfl
 ·refine run_convert_bytes_arg w src e hs he g off n cap xs hl (fun i hi=>?_) dst hd;have h0:i <xs.length:=by omega
  exact hc i _ (by simp [gE h0])
theorem M9(hgd:o.guard=none){src dst:TypeId}{x:Operand}(ho:o.op= .convert src dst x){e:TypeId}(hs:P.underlying src=some (.slice e))(he:P.underlying e=some (.int .u8))(hd:P.underlying dst=some .string){base:Nat}{v:Value}{n:Nat}{xs:List Int}(hown:af w base 1 v n (xs.map (Value.int .u8)))(hx:a.eval x=v)(h:wpList P ops Q rest (a.put o.dst (.string (strOfNums xs))) w):wpList P ops Q (o::rest) a w:=by
 refine wpList_plain hgd fun K hK=>?_
 have hr:=d0y (P:=P) hs he hd hown;unfold Oper.wp execOp;simp only [ho,hx,Sem.run_bind,hr,Result.andThen_ok,Sem.run_pure];exact hK _ _ h
end
theorem P2{P:Program}{e:TypeId}{src dst:TypeId}(hs:P.underlying src=some (.slice e))(he:P.underlying e=some (.int .u8))(hd:P.underlying dst=some .string)(x0 x1 x2 x3:Int):∀(W:World) (b c:Nat),W.cell? ⟨b,0,none⟩=some (.int .u8 x0)→W.cell? ⟨b,1,none⟩=some (.int .u8 x1)→W.cell? ⟨b,2,none⟩=some (.int .u8 x2)→W.cell? ⟨b,3,none⟩=some (.int .u8 x3)→(convert src dst (.slice (some ⟨b,0,none⟩) 4 c)).run P W= .ok (.string (strOfNums [x0,x1,x2,x3])) W:=fun W b c h0 h1 h2 h3=>
 run_convert_bytes_arg W src e hs he b 0 4 c [x0,x1,x2,x3] rfl (fun i hi=>by
 have:i=0∨i=1∨i=2∨i=3:=by omega
 rcases this with rfl|rfl|rfl|rfl
 ·simpa using h0
 ·simpa using h1
 ·simpa using h2
 ·simpa using h3) dst hd
theorem Gj{P:Program}(xs:List Int)(t:ByteArray)(h:xs.length+t.size≤9223372036854775807):∀W:World,(Op.stringOp .add (strOfNums xs) t).run P W= .ok (.string (strOfNums (xs++btL t t.size))) W:=by have:=fq (P:=P) xs (btL t t.size) (by rw [Ed];exact h);rw [Bj]at this;exact this
theorem Ju(k n:Int)(t:ByteArray)(w:World):Calls Tryz.prog 85 #[.int .i64 k,.int .i64 n,.string t] w fun e w'=>e= .returned (.int .i64 (dh k n t.size))∧w=w':=by
 rcases(show(k≠1∧k≠2)∨k=1∨k=2 by omega)with hk|rfl|rfl
 ·have F:=h_ (kv (z:=t.size) (n:=n) (.inl hk));have b1:(k !=1)=true:=bN hk.1;have b2:(k !=2)=true:=bN hk.2;clear hk;go_enter Tryz.func85,Tryz.ntmps85;go_wp2;go_ret;exact⟨ax F.o.symm,rfl⟩
 ·rcases(show n <0∨(0≤n∧2147483647 <n)∨(0≤n∧n≤2147483647) by omega)with hn|⟨hn0,hn⟩|⟨hn0,hn⟩
  ·have F:=h_ (kv (k:=1) (z:=t.size) (.inr (.inl hn)));go_enter Tryz.func85,Tryz.ntmps85;go_wp2;go_ret;exact⟨ax F.o.symm,rfl⟩
  ·have F:=h_ (kv (k:=1) (z:=t.size) (.inr (.inr hn)));go_enter Tryz.func85,Tryz.ntmps85;go_wp2;go_ret;exact⟨ax F.o.symm,rfl⟩
  ·by_cases hz:1000 <t.size
   ·have F:=h_ (up (k:=1) (n:=n) (by omega) hz);have h0:(1000:Int) < (t.size:Int):=by omega
    go_enter Tryz.func85,Tryz.ntmps85;go_wp2;go_ret;exact⟨ax F.o.symm,rfl⟩
   ·have F:=h_ (ym (k:=1) (n:=n) (by omega) hz);have h0:(t.size:Int)≤1000:=by omega
    go_enter Tryz.func85,Tryz.ntmps85;go_wp2;go_ret;exact⟨ax F.o.symm,rfl⟩
 ·rcases(show n <0∨(0≤n∧2147483647 <n)∨(0≤n∧n≤2147483647) by omega)with hn|⟨hn0,hn⟩|⟨hn0,hn⟩
  ·have F:=h_ (kv (k:=2) (z:=t.size) (.inr (.inl hn)));go_enter Tryz.func85,Tryz.ntmps85;go_wp2;go_ret;exact⟨ax F.o.symm,rfl⟩
  ·have F:=h_ (kv (k:=2) (z:=t.size) (.inr (.inr hn)));go_enter Tryz.func85,Tryz.ntmps85;go_wp2;go_ret;exact⟨ax F.o.symm,rfl⟩
  ·by_cases hz:1000 <t.size
   ·have F:=h_ (up (k:=2) (n:=n) (by omega) hz);have h0:(1000:Int) < (t.size:Int):=by omega
    go_enter Tryz.func85,Tryz.ntmps85;go_wp2;go_ret;exact⟨ax F.o.symm,rfl⟩
   ·have F:=h_ (ym (k:=2) (n:=n) (by omega) hz);have h0:(t.size:Int)≤1000:=by omega
    go_enter Tryz.func85,Tryz.ntmps85;go_wp2;go_ret;exact⟨ax F.o.symm,rfl⟩
theorem Jt(c:Int):ir 1 c=cb 1 c:=by unfold ir;rw [if_pos (by omega)];rfl
theorem Js(c:Int):ir 2 c=cb 2 c:=by unfold ir;rw [if_pos (by omega)];rfl
theorem x8(c:Int):ir 4 c=cb 4 c:=by unfold ir;rw [if_pos (by omega)];rfl
theorem d0p(k n:Int)(t:ByteArray)(w:World)(hE:dh k n t.size=0):Calls Tryz.prog 58 #[.int .i64 k,.int .i64 n,.string t] w fun e w'=>e= .returned (.tuple #[.string (strOfNums (ij k n t)),.int .i64 (dh k n t.size)])∧Below w.heap.size w w':=by
 have H:=h_ (Ju k n t w);rw [hE]at H⊢;obtain⟨hk,hd,hc,hz⟩:=Om hE;have hS:=Bs (k:=k) (n:=n) (t:=t) hE;have hH:=Gf k n t;have h8:1≤k∧k≤2:=by omega
 have u1:IntKind.u64.wrap k=k:=by rw [IntKind.wrap_u64];omega
 have u2:IntKind.u64.wrap n=n:=by rw [IntKind.wrap_u64];omega
 have u3:IntKind.u64.wrap (t.size:Int)=(t.size:Int):=by rw [IntKind.wrap_u64];omega
 have C1:Hid (∀W,Calls Tryz.prog 59 #[.int .u64 k,.int .i64 1] W fun e w'=>e= .returned (.string (strOfNums (cb 1 k)))∧Below W.heap.size W w'):=fun W=>by have:=wy k 1 W (by omega) (by omega) (by omega) (by omega);rwa [Jt]at this
 have C2:Hid (∀W,Calls Tryz.prog 59 #[.int .u64 n,.int .i64 4] W fun e w'=>e= .returned (.string (strOfNums (cb 4 n)))∧Below W.heap.size W w'):=fun W=>by have:=wy n 4 W (by omega) (by omega) (by omega) (by omega);rwa [x8]at this
 have C3:Hid (∀W,Calls Tryz.prog 59 #[.int .u64 (t.size:Int),.int .i64 2] W fun e w'=>e= .returned (.string (strOfNums (cb 2 t.size)))∧Below W.heap.size W w'):=fun W=>by have:=wy t.size 2 W (by omega) (by omega) (by omega) (by omega);rwa [Js]at this
 have l1:=l8 1 k;have l2:=l8 4 n;have l3:=l8 2 t.size;have F2:ew k n t=cb 1 k++(cb 4 n++(cb 2 t.size++btL t t.size)):=by unfold ew;simp
 generalize cb 1 k=L1 at*;generalize cb 4 n=L2 at*;generalize cb 2 (t.size:Int)=L3 at*;have h9:=fq (P:=Tryz.prog) L1 L2 (by omega);have h6:=fq (P:=Tryz.prog) (L1++L2) L3 (by rw [List.length_append];omega);have h3:=Gj (P:=Tryz.prog) (L1++(L2++L3)) t (by simp only [List.length_append];omega);simp only [List.append_assoc]at h6 h3;rw [←F2]at h3;have h7:(strOfNums (ew k n t)).size=7+t.size:=by rw [strOfNums_size,hH]
 have h4:=fq (P:=Tryz.prog) (ew k n t) (gv (fj (strOfNums (ew k n t)))) (by rw [hH];simp [gv];omega);have CS:Hid (∀W,Calls Tryz.prog 84 #[.string (strOfNums (ew k n t))] W fun e w'=>e= .returned (.int .u32 (fj (strOfNums (ew k n t))))∧Below W.heap.size W w'):=fun W=>Nv _ W (by omega)
 have hb:=ye (strOfNums (ew k n t));rw [hS];unfold gv at h4⊢;generalize fj (strOfNums (ew k n t))=c at*;generalize ew k n t=HH at*;have ha:=P2 (P:=Tryz.prog) (src:=159) Tryz.underlying159 Tryz.underlying5 Tryz.underlying9 (c%256) (c/256%256) (c/65536%256) (c/16777216);have e4:c/16777216%256=c/16777216:=by omega
 rw [e4]at h4⊢;clear e4;clear hE hS F2 h7 hH l1 l2 l3 hk;go_enter Tryz.func58,Tryz.ntmps58
 go_wp2_with(first
  |(go_at_call 85;refine H.o.mono ?_;rintro e w' ⟨rfl,rfl⟩)
  |(go_at_call_of 59 (Value.int .i64 1);refine(C1.o _).mono ?_;rintro e w1 ⟨rfl,h0⟩)
  |(go_at_call_of 59 (Value.int .i64 4);refine(C2.o _).mono ?_;rintro e w2 ⟨rfl,h1⟩)
  |(go_at_call_of 59 (Value.int .i64 2);refine(C3.o _).mono ?_;rintro e w3 ⟨rfl,h2⟩)
  |(go_at_call 84;refine(CS.o _).mono ?_;rintro e w4 ⟨rfl,h5⟩))
 go_ret2;exact⟨rfl,((((h0.trans (h1.mono h0.size)).trans (h2.mono (by have:=h0.size;have:=h1.size;omega))).trans (h5.mono (by have:=h0.size;have:=h1.size;have:=h2.size;omega))).alloc (by have:=h0.size;have:=h1.size;have:=h2.size;have:=h5.size;omega) _)⟩
theorem d0r(k n:Int)(t:ByteArray)(w:World):Calls Tryz.prog 58 #[.int .i64 k,.int .i64 n,.string t] w fun e w'=>e= .returned (.tuple #[.string (strOfNums (ij k n t)),.int .i64 (dh k n t.size)])∧Below w.heap.size w w':=by
 by_cases hE:dh k n t.size=0
 ·exact d0p k n t w hE
 ·have H:=h_ (Ju k n t w);have h0:(dh k n t.size !=0)=true:=bN hE;rw [r8 hE];generalize dh k n t.size=ee at*;clear hE;go_enter Tryz.func58,Tryz.ntmps58;go_wp2_with(go_at_call 85;refine H.o.mono ?_;rintro e w' ⟨rfl,rfl⟩);go_ret2;exact⟨rfl,br⟩
theorem w0e(L:List Int)(k:Nat)(x:Int)(h:L[k]?=some x):(L.take (k+1)).reverse=[x]++(L.take k).reverse:=by rw [List.take_add_one,h];simp
theorem Yq(L:List Int)(w:World)(hL:L.length≤1048576):Calls Tryz.prog 117 #[.string (strOfNums L)] w fun e w'=>e= .returned (.string (strOfNums L.reverse))∧w=w':=by
 have hz:=strOfNums_size L;go_enter Tryz.func117,Tryz.ntmps117;go_wp2;go_loop [3,7] (fun v3 v7=>∃(k:Nat) (R:List Int),k≤L.length∧R.length≤k∧Hid (R=(L.take k).reverse)∧v7= .int .i64 k∧v3= .string (strOfNums R)) (fun _ v7=>L.length- (intOf v7).toNat)
 case atStart=>exact⟨0,[],zl,by simp,by simp [Hid],rfl,rfl⟩
 case round=>
  obtain⟨k,R,hk,h1,hR,rfl,rfl⟩:=hrel;by_cases hlt:k <L.length
  ·have e0:=gE hlt;have HS:=h_ (w0e L k _ e0)
   have h0:(strOfNums L).extract k (k+1)=strOfNums [L[k]]:=by rw [Bk,show k+1-k=1 by omega];congr 1;rw [List.take_one,List.head?_drop,e0];rfl
   generalize L[k]=x at*;have hcut:=yp (P:=Tryz.prog) (t:=9) (by kernel_rfl) (strOfNums L) k (k+1) (by omega) (by omega);rw [h0]at hcut;have h2:=fq (P:=Tryz.prog) [x] R (by simp;omega);have e2:IntKind.i64.wrap ((k:Int)+1)=(k:Int)+1:=by rw [IntKind.wrap_i64];omega
   have e3:(0:Int)≤(k:Int)+1:=by omega
   have e4:((k:Int)+1).toNat=k+1:=by omega
   have e5:(k:Int)+1≤(L.length:Int):=by omega
   have e6:(k:Int)≤(k:Int)+1:=by omega
   clear e0;go_wp2;go_round
   case rel=>exact⟨k+1,[x]++R,by omega,by simp;omega,by simp only [Hid];rw [HS.o,hR.o],by go_num,rfl⟩
   case measure=>simp [intOf];omega
  ·have F:Hid (R=L.reverse):=by simp only [Hid];rw [hR.o,List.take_of_length_le (by omega)]
   go_wp2;go_ret;exact⟨by rw [F.o];rfl,rfl⟩
theorem d0k(k n:Int)(t:ByteArray)(w:World)(hE:dh k n t.size=0):Calls Tryz.prog 119 #[.int .i64 k,.int .i64 n,.string t] w fun e w'=>e= .returned (.tuple #[.string (strOfNums (ij k n t)),.int .i64 (dh k n t.size)])∧Below w.heap.size w w':=by
 rw [hE];obtain⟨hk,hc,h9,hz⟩:=Om hE;have hS:=Bs (k:=k) (n:=n) (t:=t) hE;have hH:=Gf k n t;have h7:1≤k∧k≤2:=by omega
 have u1:IntKind.u64.wrap k=k:=by rw [IntKind.wrap_u64];omega
 have u2:IntKind.u64.wrap n=n:=by rw [IntKind.wrap_u64];omega
 have u3:IntKind.u64.wrap (t.size:Int)=(t.size:Int):=by rw [IntKind.wrap_u64];omega
 have C1:Hid (∀W,Calls Tryz.prog 104 #[.int .u64 k,.int .i64 1] W fun e w'=>e= .returned (.string (strOfNums (cb 1 k)))∧Below W.heap.size W w'):=fun W=>by have:=ky k 1 W (by omega) (by omega) (by omega) (by omega);rwa [Jt]at this
 have C2:Hid (∀W,Calls Tryz.prog 104 #[.int .u64 n,.int .i64 4] W fun e w'=>e= .returned (.string (strOfNums (cb 4 n)))∧Below W.heap.size W w'):=fun W=>by have:=ky n 4 W (by omega) (by omega) (by omega) (by omega);rwa [x8]at this
 have C3:Hid (∀W,Calls Tryz.prog 104 #[.int .u64 (t.size:Int),.int .i64 2] W fun e w'=>e= .returned (.string (strOfNums (cb 2 t.size)))∧Below W.heap.size W w'):=fun W=>by have:=ky t.size 2 W (by omega) (by omega) (by omega) (by omega);rwa [Js]at this
 have l1:=l8 1 k;have l2:=l8 4 n;have l3:=l8 2 t.size;have F2:ew k n t=cb 1 k++(cb 4 n++(cb 2 t.size++btL t t.size)):=by unfold ew;simp
 generalize cb 1 k=L1 at*;generalize cb 4 n=L2 at*;generalize cb 2 (t.size:Int)=L3 at*;have h8:=fq (P:=Tryz.prog) L1 L2 (by omega);have h5:=fq (P:=Tryz.prog) (L1++L2) L3 (by rw [List.length_append];omega);have h4:=Gj (P:=Tryz.prog) (L1++(L2++L3)) t (by simp only [List.length_append];omega);simp only [List.append_assoc]at h5 h4;rw [←F2]at h4;have h6:(strOfNums (ew k n t)).size=7+t.size:=by rw [strOfNums_size,hH]
 have ha:=fq (P:=Tryz.prog) (ew k n t) (gv (fj (strOfNums (ew k n t)))) (by rw [hH];simp [gv];omega)
 have CS:Hid (∀W,Calls Tryz.prog 118 #[.int .u32 0,.string (strOfNums (ew k n t))] W fun e w'=>e= .returned (.int .u32 (fj (strOfNums (ew k n t))))∧W=w'):=fun W=>by have:=Nu 0#32 (strOfNums (ew k n t)) W (by omega);rw [Fy]at this;exact this
 have hb:=ye (strOfNums (ew k n t));rw [hS];generalize fj (strOfNums (ew k n t))=c at*;generalize ew k n t=HH at*;have u4:IntKind.u64.wrap c=c:=by rw [IntKind.wrap_u64];omega
 have C4:Hid (∀W,Calls Tryz.prog 104 #[.int .u64 c,.int .i64 4] W fun e w'=>e= .returned (.string (strOfNums (cb 4 c)))∧Below W.heap.size W w'):=fun W=>by have:=ky c 4 W (by omega) (by omega) (by omega) (by omega);rwa [x8]at this
 have C5:Hid (∀W,Calls Tryz.prog 117 #[.string (strOfNums (cb 4 c))] W fun e w'=>e= .returned (.string (strOfNums (gv c)))∧W=w'):=fun W=>by have:=Yq (cb 4 c) W (by rw [l8];omega);rw [V9]at this;exact this
 generalize cb 4 c=L4 at*;generalize gv c=L5 at*;clear hE hS F2 h6 hH l1 l2 l3 hk;rcases(show k=1∨k=2 by omega)with rfl|rfl
 ·go_enter Tryz.func119,Tryz.ntmps119
  go_wp2_with(first
   |(go_at_call_of 104 (Value.int .i64 1);refine(C1.o _).mono ?_;rintro e w1 ⟨rfl,h0⟩)
   |(go_at_call_of 104 (Value.int .u64 c);refine(C4.o _).mono ?_;rintro e w4 ⟨rfl,h3⟩)
   |(go_at_call_of 104 (Value.int .i64 4);refine(C2.o _).mono ?_;rintro e w2 ⟨rfl,h1⟩)
   |(go_at_call_of 104 (Value.int .i64 2);refine(C3.o _).mono ?_;rintro e w3 ⟨rfl,h2⟩)
   |(go_at_call 118;refine(CS.o _).mono ?_;rintro e w5 ⟨rfl,rfl⟩)
   |(go_at_call 117;refine(C5.o _).mono ?_;rintro e w6 ⟨rfl,rfl⟩))
  go_ret2;exact⟨rfl,(((h0.trans (h1.mono h0.size)).trans (h2.mono (by have:=h0.size;have:=h1.size;omega))).trans (h3.mono (by have:=h0.size;have:=h1.size;have:=h2.size;omega)))⟩
 ·go_enter Tryz.func119,Tryz.ntmps119
  go_wp2_with(first
   |(go_at_call_of 104 (Value.int .i64 1);refine(C1.o _).mono ?_;rintro e w1 ⟨rfl,h0⟩)
   |(go_at_call_of 104 (Value.int .u64 c);refine(C4.o _).mono ?_;rintro e w4 ⟨rfl,h3⟩)
   |(go_at_call_of 104 (Value.int .i64 4);refine(C2.o _).mono ?_;rintro e w2 ⟨rfl,h1⟩)
   |(go_at_call_of 104 (Value.int .i64 2);refine(C3.o _).mono ?_;rintro e w3 ⟨rfl,h2⟩)
   |(go_at_call 118;refine(CS.o _).mono ?_;rintro e w5 ⟨rfl,rfl⟩)
   |(go_at_call 117;refine(C5.o _).mono ?_;rintro e w6 ⟨rfl,rfl⟩))
  go_ret2;exact⟨rfl,(((h0.trans (h1.mono h0.size)).trans (h2.mono (by have:=h0.size;have:=h1.size;omega))).trans (h3.mono (by have:=h0.size;have:=h1.size;have:=h2.size;omega)))⟩
theorem d0m(k n:Int)(t:ByteArray)(w:World)(hE:dh k n t.size≠0):Calls Tryz.prog 119 #[.int .i64 k,.int .i64 n,.string t] w fun e w'=>e= .returned (.tuple #[.string (strOfNums (ij k n t)),.int .i64 (dh k n t.size)])∧Below w.heap.size w w':=by
 rcases(show(k≠1∧k≠2)∨k=1∨k=2 by omega)with hk|rfl|rfl
 ·have F:=h_ (show dh k n t.size=_∧ij k n t=[]from⟨kv (z:=t.size) (n:=n) (.inl hk),r8 (by rw [kv (z:=t.size) (n:=n) (.inl hk)];decide)⟩);have b1:(k !=1)=true:=bN hk.1;have b2:(k !=2)=true:=bN hk.2;clear hk hE;go_enter Tryz.func119,Tryz.ntmps119;go_wp2;go_ret2;exact⟨em (by rw [F.o.2];rfl) F.o.1.symm,br⟩
 ·rcases(show n <0∨(0≤n∧2147483647 <n)∨(0≤n∧n≤2147483647) by omega)with hn|⟨hn0,hn⟩|⟨hn0,hn⟩
  ·have F:=h_ (show dh 1 n t.size=_∧ij 1 n t=[]from⟨kv (k:=1) (z:=t.size) (.inr (.inl hn)),r8 (by rw [kv (k:=1) (z:=t.size) (.inr (.inl hn))];decide)⟩);clear hE;go_enter Tryz.func119,Tryz.ntmps119;go_wp2;go_ret2;exact⟨em (by rw [F.o.2];rfl) F.o.1.symm,br⟩
  ·have F:=h_ (show dh 1 n t.size=_∧ij 1 n t=[]from⟨kv (k:=1) (z:=t.size) (.inr (.inr hn)),r8 (by rw [kv (k:=1) (z:=t.size) (.inr (.inr hn))];decide)⟩);clear hE;go_enter Tryz.func119,Tryz.ntmps119;go_wp2;go_ret2;exact⟨em (by rw [F.o.2];rfl) F.o.1.symm,br⟩
  ·by_cases hz:1000 <t.size
   ·have F:=h_ (show dh 1 n t.size=_∧ij 1 n t=[]from⟨up (k:=1) (n:=n) (by omega) hz,r8 (by rw [up (k:=1) (n:=n) (by omega) hz];decide)⟩);clear hE;have h0:(1000:Int) < (t.size:Int):=by omega
    go_enter Tryz.func119,Tryz.ntmps119;go_wp2;go_ret2;exact⟨em (by rw [F.o.2];rfl) F.o.1.symm,br⟩
   ·exact absurd (ym (k:=1) (n:=n) (by omega) hz) hE
 ·rcases(show n <0∨(0≤n∧2147483647 <n)∨(0≤n∧n≤2147483647) by omega)with hn|⟨hn0,hn⟩|⟨hn0,hn⟩
  ·have F:=h_ (show dh 2 n t.size=_∧ij 2 n t=[]from⟨kv (k:=2) (z:=t.size) (.inr (.inl hn)),r8 (by rw [kv (k:=2) (z:=t.size) (.inr (.inl hn))];decide)⟩);clear hE;go_enter Tryz.func119,Tryz.ntmps119;go_wp2;go_ret2;exact⟨em (by rw [F.o.2];rfl) F.o.1.symm,br⟩
  ·have F:=h_ (show dh 2 n t.size=_∧ij 2 n t=[]from⟨kv (k:=2) (z:=t.size) (.inr (.inr hn)),r8 (by rw [kv (k:=2) (z:=t.size) (.inr (.inr hn))];decide)⟩);clear hE;go_enter Tryz.func119,Tryz.ntmps119;go_wp2;go_ret2;exact⟨em (by rw [F.o.2];rfl) F.o.1.symm,br⟩
  ·by_cases hz:1000 <t.size
   ·have F:=h_ (show dh 2 n t.size=_∧ij 2 n t=[]from⟨up (k:=2) (n:=n) (by omega) hz,r8 (by rw [up (k:=2) (n:=n) (by omega) hz];decide)⟩);clear hE;have h0:(1000:Int) < (t.size:Int):=by omega
    go_enter Tryz.func119,Tryz.ntmps119;go_wp2;go_ret2;exact⟨em (by rw [F.o.2];rfl) F.o.1.symm,br⟩
   ·exact absurd (ym (k:=2) (n:=n) (by omega) hz) hE
theorem d0n(k n:Int)(t:ByteArray)(w:World):Calls Tryz.prog 119 #[.int .i64 k,.int .i64 n,.string t] w fun e w'=>e= .returned (.tuple #[.string (strOfNums (ij k n t)),.int .i64 (dh k n t.size)])∧Below w.heap.size w w':=by
 by_cases hE:dh k n t.size=0
 ·exact d0k k n t w hE
 ·exact d0m k n t w hE
end Go.Proofs.YtcldpfhpkbeaiadGreat
