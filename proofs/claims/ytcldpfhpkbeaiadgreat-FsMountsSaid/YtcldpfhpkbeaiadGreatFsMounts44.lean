/- A part of the proof of FsMounts. No condition of ours. -/
import Derived.Test.YtcldpfhpkbeaiadGreatFsMounts43
import Derived.Test.YtcldpfhpkbeaiadGreatFsMounts37
import Derived.Maps.OwnSet
import Derived.Maps.Views
import Derived.Maps.OwnOps
set_option maxRecDepth 20000
set_option maxHeartbeats 4000000
namespace Go.Proofs.YtcldpfhpkbeaiadGreat
section
open Go.RowKit Go.Maps
structure EnV where
 i:Int
 A:Option Addr
 n:Nat
 c:Nat
 b:Bool
def EnV.cells(v:EnV):List Value:=[.int .i64 v.i,.slice v.A v.n v.c,.bool v.b]
def EnV.val(v:EnV):Value:=.agg #[.int .i64 v.i,.slice v.A v.n v.c,.bool v.b]
theorem ab.keepS{α:Type}{w w':World}{B n c k:Nat}{A:Option Addr}{enc:α→List Value}{xs:List α}(h:ab w B A n c enc k xs)(hk:∀(p:Addr) (u:Value),p.block <B→w.cell? p=some u→w'.cell? p=some u):ab w' B A n c enc k xs:=
 ⟨h.len,h.le,h.top,fun i x hx=>by
   obtain⟨b,o,e,hb,hc⟩:=h.at_ i x hx
   exact⟨b,o,e,hb,fun j u hu=>hk ⟨b,_,none⟩ _ hb (hc j u hu)⟩⟩
structure ku(cs:List ByteArray)(ws:List ae)(W:World)(B:Nat)(j:Nat)(v:EnV):Prop where
 at_:v.i=(j:Int)
 last:v.b=lgB cs ws j
 rows:ab W B v.A v.n v.c bz.cells 4 (scL (ar cs ws j))
theorem ku.keep{cs:List ByteArray}{ws:List ae}{W W':World}{B B' j:Nat}{v:EnV}(h:ku cs ws W B j v)(hB:B≤B')(hb:Below B W W'):ku cs ws W' B' j v:=⟨h.at_,h.last,(h.rows.below hb).more hB⟩
theorem ku.keepS{cs:List ByteArray}{ws:List ae}{W W':World}{B B' j:Nat}{v:EnV}(h:ku cs ws W B j v)(hB:B≤B')(hk:∀(p:Addr) (u:Value),p.block <B→W.cell? p=some u→W'.cell? p=some u):ku cs ws W' B' j v:=⟨h.at_,h.last,(h.rows.keepS hk).more hB⟩
def jx(cs:List ByteArray)(ws:List ae)(W:World)(B:Nat):List Nat→List EnV→Prop
 | [],[]=>True
 |j::js,v::vs=>ku cs ws W B j v∧jx cs ws W B js vs
 |_,_=>False
section
variable {cs:List ByteArray} {ws:List ae} {W W':World} {B B':Nat}
theorem rv:∀ {js:List Nat} {vs:List EnV},jx cs ws W B js vs→js.length=vs.length
 | [],[],_=>rfl
 |_::_,_::_,h=>by simp [rv h.2]
 | [],_::_,h=>h.elim
 |_::_,[],h=>h.elim
theorem th(hB:B≤B')(hb:Below B W W'):∀ {js:List Nat} {vs:List EnV},jx cs ws W B js vs→jx cs ws W' B' js vs
 | [],[],_=>trivial
 |_::_,_::_,h=>⟨h.1.keep hB hb,th hB hb h.2⟩
 | [],_::_,h=>h.elim
 |_::_,[],h=>h.elim
theorem K6{j:Nat}{v:EnV}(hj:ku cs ws W B j v):∀ {js:List Nat} {vs:List EnV},jx cs ws W B js vs→jx cs ws W B (js++[j]) (vs++[v])
 | [],[],_=>⟨hj,trivial⟩
 |_::_,_::_,h=>⟨h.1,K6 hj h.2⟩
 | [],_::_,h=>h.elim
 |_::_,[],h=>h.elim
theorem K5:∀(t:Nat) {js:List Nat} {vs:List EnV},jx cs ws W B js vs→jx cs ws W B (js.take t) (vs.take t)
 |0,_,_,_=>by simp [jx]
 |t+1,[],[],_=>trivial
 |t+1,_::_,_::_,h=>⟨h.1,K5 t h.2⟩
 |_+1,[],_::_,h=>h.elim
 |_+1,_::_,[],h=>h.elim
theorem zx:∀ {js:List Nat} {vs:List EnV} {k j:Nat},jx cs ws W B js vs→js[k]?=some j→∃v,vs[k]?=some v∧ku cs ws W B j v
 | [],_,k,_,_,hj=>by simp at hj
 |_::_,[],_,_,h,_=>h.elim
 |_::_,v::_,0,_,h,hj=>by simp at hj;subst hj;exact⟨v,rfl,h.1⟩
 |_::_,_::_,k+1,_,h,hj=>by simpa using zx h.2 (by simpa using hj)
end
def vz(v:Value):Option (DataW Value×List MemPlace):=some (.held v,[])
def en0:EnV:=⟨0,none,0,0,false⟩
def Ar(D:DataW Value)(f:Int→Option EnV):Prop:=∀x:Int,Maps.has D (.int .i64 x)=(f x).isSome∧D.atKey (.int .i64 x) (.held en0.val)= .held ((f x).getD en0).val
theorem m0z:Ar (.map []) (fun _=>none):=fun _=>⟨rfl,rfl⟩
theorem m0y{D:DataW Value}{f:Int→Option EnV}{y:Int}{v:EnV}(hD:IsMap D)(h:Ar D f):Ar (D.put (.int .i64 y) (.held v.val)) (fun x=>if x=y then some v else f x):=fun x=>by
 by_cases e:x=y
 ·subst e;rw [has_put_same hD (show WideAt.IsKeyLit (.int .i64 x)from trivial),atKey_put_same hD (show WideAt.IsKeyLit (.int .i64 x)from trivial)];simp
 ·rw [has_put_other (by simpa using e),atKey_put_other (by simpa using e),(h x).1,(h x).2];simp [e]
theorem Fh{P:Program}(w:World){ops:Array Oper}{rest:List Oper}{o:Oper}{a:Act}{Q:Exit→Act→World→Prop}(hg:o.guard=none)(m x:Operand)(t:TypeId)(hop:o.op=Op.lookup t m x true)(k e:TypeId)(K:Keyed P k)(ht:P.underlying t=some (.map k e))(hz:(zeroValue e).run P w= .ok en0.val w)(b n:Nat)(D:DataW Value)(f:Int→Option EnV)(hf:Ar D f)(hm:a.eval m= .map (some b))(hown:w.ownsMap P k vz b n D)(y:Int)(hx:a.eval x= .int .i64 y)(hkey:keyOf P k (.int .i64 y)=some (.int .i64 y))(r:Bool)(v:EnV)(hr:(f y).isSome=r)(hv:(f y).getD en0=v)(hK:wpList P ops Q rest (a.put o.dst (.tuple #[.agg #[.int .i64 v.i,.slice v.A v.n v.c,.bool v.b],.bool r])) w):wpList P ops Q (o::rest) a w:=
 wpList_lookup_own_ok w hg m x t hop k e K ht vz hz (.held en0.val) [] rfl b n D hm hown _ _ hx hkey (fun u ps hu=>by
   rw [(hf y).2,hv]at hu
   rw [(hf y).1,hr]
   injection hu with hu
   injection hu with hu _
   injection hu with hu
   subst hu
   exact hK)
def Z5(ns:List Int)(x:Int)(r:Int):Prop:=(∃p:Nat,r=(p:Int)∧ns[p]?=some x∧∀q,q <p→ns[q]?≠some x)∨(r= -1∧x∉ns)
theorem Jb(A:Option Addr)(n c:Nat)(ns:List Int)(x:Int)(B:Nat)(w:World)(r:ab w B A n c (fun z=>[.int .i64 z]) 1 ns):Calls Tryz.prog 68 #[.slice A n c,.int .i64 x] w fun e w'=>(∃i,e= .returned (.int .i64 i)∧Z5 ns x i)∧w'=w:=by
 have hn:=r.len;subst hn;have h4:(ns.length:Int)≤9223372036854775807:=by have h1:=r.le;have h2:=r.top;unfold maxLen at h2;omega
 go_enter Tryz.func68,Tryz.ntmps68;go_wp2;go_loop [8] (fun v8=>∃i:Nat,i≤ns.length∧v8= .int .i64 i∧Hid (∀q,q <i→ns[q]?≠some x)) (fun v8=>ns.length- (intOf v8).toNat)
 case atStart=>exact⟨0,zl,rfl,fun q hq=>absurd hq (Nat.not_lt_zero q)⟩
 case round=>
  obtain⟨i,hi,rfl,HI⟩:=hrel;by_cases hlt:i <ns.length
  ·have e1:=gE hlt;generalize ns[i]=y at e1;have E1:=h_ e1;obtain⟨b,o,rfl,h3,hc⟩:=r.one e1;have h0:(i:Int) < (ns.length:Int):=by omega
   clear e1;by_cases hy:x=y
   ·subst hy;go_wp2;go_ret;exact⟨⟨_,rfl,.inl ⟨i,rfl,E1.o,HI.o⟩⟩,rfl⟩
   ·have F:Hid (∀q,q <i+1→ns[q]?≠some x):=fun q hq=>by
     rcases Nat.lt_or_ge q i with h|h
     ·exact HI.o q h
     ·obtain rfl:q=i:=by omega
      rw [E1.o];intro h;injection h with h;exact hy h.symm
    go_wp2;go_round
    case rel=>exact⟨i+1,by omega,by go_num,F.o⟩
    case measure=>(simp [intOf];try omega)
  ·have F:Hid (x∉ns):=fun h=>by obtain⟨q,hq,e⟩:=List.getElem_of_mem h;exact HI.o q (by omega) (by rw [gE hq,e])
   have h0:¬(i:Int) < (ns.length:Int):=by omega
   go_wp2;go_ret;exact⟨⟨_,rfl,.inr ⟨rfl,F.o⟩⟩,rfl⟩
theorem t0u(A:Option Addr)(n c:Nat)(ns:List Int)(x:Int)(B:Nat)(w:World)(r:ab w B A n c (fun z=>[.int .i64 z]) 1 ns)(hx:x∈ns):Calls Tryz.prog 67 #[.slice A n c,.int .i64 x] w fun e w'=>e= .returned (.bool true)∧w'=w:=by have H:=h_ (Jb A n c ns x B w r);have HX:=h_ hx;clear hx r;go_enter Tryz.func67,Tryz.ntmps67;go_wp2_with(go_at_call 68;refine H.o.mono ?_;rintro e w' ⟨⟨i,rfl,hi⟩,rfl⟩;have h0:(0:Int)≤i:=(hi.elim (fun⟨p,h,_⟩=>h▸Int.natCast_nonneg p) (fun h=>absurd HX.o h.2)));go_ret;exact⟨rfl,rfl⟩
theorem t0v(A:Option Addr)(n c:Nat)(ns:List Int)(x:Int)(B:Nat)(w:World)(r:ab w B A n c (fun z=>[.int .i64 z]) 1 ns)(hx:x∉ns):Calls Tryz.prog 67 #[.slice A n c,.int .i64 x] w fun e w'=>e= .returned (.bool false)∧w'=w:=by have H:=h_ (Jb A n c ns x B w r);have HX:=h_ hx;clear hx r;go_enter Tryz.func67,Tryz.ntmps67;go_wp2_with(go_at_call 68;refine H.o.mono ?_;rintro e w' ⟨⟨i,rfl,hi⟩,rfl⟩;obtain rfl:i= -1:=(hi.elim (fun⟨p,_,h,_⟩=>absurd (List.mem_of_getElem? h) HX.o) (fun h=>h.1)));go_ret;exact⟨rfl,rfl⟩
end
section
open Go.RowKit
theorem Vt{w:World}{B n c:Nat}{A:Option Addr}{l:List EnV}(r:ab w B A n c EnV.cells 3 l){i:Nat}{p:EnV}(h:l[i]?=some p):∃b o,A=some ⟨b,o,none⟩∧b <B∧w.cell? ⟨b,o+i*3,none⟩=some (.int .i64 p.i)∧w.cell? ⟨b,o+i*3+1,none⟩=some (.slice p.A p.n p.c)∧w.cell? ⟨b,o+i*3+2,none⟩=some (.bool p.b):=by obtain⟨b,o,e,hb,hc⟩:=r.at_ i p h;exact⟨b,o,e,hb,hc 0 _ rfl,hc 1 _ rfl,hc 2 _ rfl⟩
end
section
open Go.RowKit Go.Maps
theorem D9:(Tryz.prog.info? 58).map (fun i=>(i.zero,i.size,i.bytes))=some (some (.agg #[.int .i64 0,.slice none 0 0,.bool false]),3,40):=by kernel_rfl
theorem Cs:Keyed Tryz.prog 3:=int_keyed Tryz.underlying3
theorem Fd(w:World):(zeroValue 58).run Tryz.prog w= .ok en0.val w:=by kernel_rfl
theorem m0x{w w':World}{b:Nat}{es:Array MapEntry}{c:Nat}(hm:w.heap[b]?=some (.map es c))(hg:w.grownBy w' (some b))(p:Addr)(u:Value)(_:p.block <w.heap.size)(h:w.cell? p=some u):w'.cell? p=some u:=by
 by_cases e:p.block=b
 ·subst e;unfold World.cell? at h;rw [hm]at h;simp at h
 ·exact hg.cell h (fun h=>e (by injection h))
theorem Re{H:Type}{w w':World}{P:Program}{k:TypeId}{R:Value→Option (DataW H×List MemPlace)}{b n:Nat}{D:DataW H}(h:w.ownsMap P k R b n D)(hb:Below w.heap.size w w'):w'.ownsMap P k R b n D:=by have h0:=h.lt;obtain⟨es,h5,h1,h2,h3,h4⟩:=h;exact⟨es,h5,(hb.block _ h0).trans h1,h2,h3,h4⟩
theorem Ph{α:Type}{w:World}{B n c c' k t:Nat}{A:Option Addr}{enc:α→List Value}{xs:List α}(h:ab w B A n c enc k xs)(ht:t≤n)(hc:t≤c')(hm:c'≤maxLen):ab w B A t c' enc k (xs.take t):=
 ⟨by rw [List.length_take,h.len];omega,hc,hm,fun i x hx=>h.at_ i x (by
 rw [List.getElem?_take]at hx
 split at hx
 ·exact hx
 ·cases hx)⟩
noncomputable def kj(cs:List ByteArray)(ws:List ae)(a:Int):Int:=if au cs ws≠0 then au cs ws else if a <0∨2147483647 <a then 1 else 0
def Ap(cs:List ByteArray)(ws:List ae)(a:Int)(w:World)(e:Ending)(w':World):Prop:=
 (kj cs ws a≠0∧e= .returned (.tuple #[.slice none 0 0,.int .i64 0,.int .i64 (kj cs ws a)])∧Below w.heap.size w w')∨
 (kj cs ws a=0∧(∃A n c vs,e= .returned (.tuple #[.slice A n c,.int .i64 (dr cs ws a),.int .i64 0])∧ab w' w'.heap.size A n c EnV.cells 3 vs∧jx cs ws w' w'.heap.size (jh cs ws a) vs)∧Below w.heap.size w w')
theorem Oq{cs:List ByteArray}{ws:List ae}{a:Int}(h:au cs ws≠0):kj cs ws a=au cs ws:=if_pos h
theorem Ot{cs:List ByteArray}{ws:List ae}{a:Int}(h:au cs ws=0)(h2:a <0∨2147483647 <a):kj cs ws a=1:=by unfold kj;rw [if_neg (by rw [h];decide),if_pos h2]
theorem yn{cs:List ByteArray}{ws:List ae}{a:Int}(h:au cs ws=0)(h2:¬(a <0∨2147483647 <a)):kj cs ws a=0:=by unfold kj;rw [if_neg (by rw [h];decide),if_neg h2]
structure RnI(cs:List ByteArray)(ws:List ae)(wq:World)(k:Nat)(D:DataW Value)(f:Int→Option EnV)(wr:World):Prop where
 map:wr.ownsMap Tryz.prog 3 vz wq.heap.size (cs.length-k) D
 is:Ar D f
 fs:∀x,(ff (lgN cs ws) k (cs.length-k) x=none→f x=none)∧∀j,ff (lgN cs ws) k (cs.length-k) x=some j→∃v,f x=some v∧ku cs ws wr wr.heap.size j v
 below:Below wq.heap.size wq wr
 size:wq.heap.size+1≤wr.heap.size
theorem f0w{cs:List ByteArray}{ws:List ae}{wq wr w1:World}{k:Nat}{D:DataW Value}{f:Int→Option EnV}(h:RnI cs ws wq (k+1) D f wr)(hk:k <cs.length)(ho:scO (ar cs ws k)=false)(hb:Below wr.heap.size wr w1):RnI cs ws wq k D f w1:=by
 have e:cs.length-k=(cs.length- (k+1))+1:=by omega
 refine {map:=?_,is:=h.is,fs:=fun x=>?_,below:=h.below.trans (hb.mono h.below.size),size:=Nat.le_trans h.size hb.size}
 ·obtain⟨es,h0,h1,h2,h3,h4⟩:=h.map;exact⟨es,h0,(hb.block _ h.size).trans h1,h2,by omega,h4⟩
 ·rw [e,Jz (by rw [Cv ho];intro h;cases h)]
  exact⟨(h.fs x).1,fun j hj=>by
   obtain⟨v,h1,h2⟩:=(h.fs x).2 j hj
   exact⟨v,h1,h2.keep hb.size hb⟩⟩
theorem f0v{cs:List ByteArray}{ws:List ae}{wq wr w1 wm:World}{k:Nat}{D:DataW Value}{f:Int→Option EnV}{A:Option Addr}{q d:Nat}(h:RnI cs ws wq (k+1) D f wr)(hk:k <cs.length)(ho:scO (ar cs ws k)=true)(hb:Below wr.heap.size wr w1)(hr:ab w1 w1.heap.size A q d bz.cells 4 (scL (ar cs ws k)))(hm:wm.ownsMap Tryz.prog 3 vz wq.heap.size (cs.length- (k+1)+1) (D.put (.int .i64 (scN (ar cs ws k))) (.held (EnV.val ⟨(k:Int),A,q,d,scB (ar cs ws k)⟩))))(hg:w1.grownBy wm (some wq.heap.size)):RnI cs ws wq k (D.put (.int .i64 (scN (ar cs ws k))) (.held (EnV.val ⟨(k:Int),A,q,d,scB (ar cs ws k)⟩))) (fun x=>if x=scN (ar cs ws k)then some ⟨(k:Int),A,q,d,scB (ar cs ws k)⟩else f x) wm:=by
 have e:cs.length-k=(cs.length- (k+1))+1:=by omega
 have h0:Below wq.heap.size wq w1:=h.below.trans (hb.mono h.below.size);obtain⟨es,h5,h1,_⟩:=h.map;have h6:w1.heap[wq.heap.size]?=some (.map es h5):=(hb.block _ h.size).trans h1;have h4:=m0x h6 hg;refine {map:=by rw [e];exact hm,is:=m0y h.map.isMap h.is,fs:=fun x=>?_,below:=h0.grown hg h0.size (fun k hk=>by injection hk with hk;omega),size:=Nat.le_trans h.size (Nat.le_trans hb.size hg.size)};rw [e];by_cases hx:x=scN (ar cs ws k)
 ·subst hx;rw [r0h (zm ho)];refine⟨fun h=>by(cases h),fun j hj=>⟨⟨(k:Int),A,q,d,scB (ar cs ws k)⟩,if_pos rfl,?_⟩⟩;injection hj with hj;subst hj;exact⟨rfl,rfl,(hr.keepS h4).more hg.size⟩
 ·rw [Jz (by rw [zm ho];intro h;injection h with h;exact hx h.symm)];refine⟨fun hn=>by show(if _ then _ else _)=_;rw [if_neg hx];exact(h.fs x).1 hn,fun j hj=>?_⟩;obtain⟨v,h2,h3⟩:=(h.fs x).2 j hj;exact⟨v,by show(if _ then _ else _)=_;rw [if_neg hx];exact h2,(h3.keep hb.size hb).keepS hg.size h4⟩
structure RnJ(cs:List ByteArray)(ws:List ae)(a:Int)(wz:World)(t:Nat)(js:List Nat)(vs:List EnV)(A:Option Addr)(c:Nat)(wr:World):Prop where
 all:js++chn (lgN cs ws) 2 (cs.length-2) ((dr cs ws a-a).toNat-t) (a+1+(t:Int))=sj cs ws a
 top:t≤(dr cs ws a-a).toNat
 ens:jx cs ws wz wz.heap.size js vs
 own:af wr wz.heap.size 3 (.slice A vs.length c) vs.length (vs.flatMap EnV.cells)
 below:Below wz.heap.size wz wr
theorem Ps(cs:List ByteArray)(ws:List ae)(a:Int)(wz:World):RnJ cs ws a wz 0 [] [] none 0 wz:=
 {all:=by simp [sj],top:=zl,ens:=trivial,own:=af.nil _ _ _,below:=br}
theorem Gn{cs:List ByteArray}{ws:List ae}{a:Int}{j t:Nat}(hf:ff (lgN cs ws) 2 (cs.length-2) (a+1+(t:Int))=some j):t < (dr cs ws a-a).toNat:=by have:=r0g (a:=a) hf;unfold dr;omega
theorem Pu{cs:List ByteArray}{ws:List ae}{a:Int}{wz wr w1 w5:World}{t j:Nat}{js:List Nat}{vs:List EnV}{A A3:Option Addr}{c c3:Nat}{v:EnV}{row:Option Nat}(h:RnJ cs ws a wz t js vs A c wr)(hf:ff (lgN cs ws) 2 (cs.length-2) (a+1+(t:Int))=some j)(hv:ku cs ws wz wz.heap.size j v)(hb:Below wz.heap.size wz w1)(hl:ed w1 w5 wz.heap.size row)(hown:af w5 wz.heap.size 3 (.slice A3 (vs.length+1) c3) (vs.length+1) (vs.flatMap EnV.cells++[.int .i64 v.i,.slice v.A v.n v.c,.bool v.b])):RnJ cs ws a wz (t+1) (js++[j]) (vs++[v]) A3 c3 w5∧(vs++[v]).length=vs.length+1:=by
 have e:(vs++[v]).length=vs.length+1:=by simp
 have h0:=Gn hf;refine⟨{all:=?_,top:=h0,ens:=K6 hv h.ens,own:=?_,below:=hl.below ler hb},e⟩
 ·rw [←h.all,u0m hf (by omega)];rw [show(dr cs ws a-a).toNat- (t+1)=(dr cs ws a-a).toNat-t-1 by omega,show a+1+((t+1:Nat):Int)=a+1+(t:Int)+1 by omega];simp
 ·rw [e,List.flatMap_append];simpa [EnV.cells]using hown
theorem Gp{cs:List ByteArray}{ws:List ae}{a:Int}{wz wr:World}{t:Nat}{js:List Nat}{vs:List EnV}{A:Option Addr}{c:Nat}(h:RnJ cs ws a wz t js vs A c wr)(hf:ff (lgN cs ws) 2 (cs.length-2) (a+1+(t:Int))=none):js=sj cs ws a:=by have:=h.all;rw [u0n hf,List.append_nil]at this;exact this
theorem Wx{g:Nat→Option Int}:∀(f i m:Nat) (n:Int),(chn g i m f n).length≤f
 |0,_,_,_=>Nat.le_refl _
 |f+1,i,m,n=>by have:=Wx (g:=g) f i m (n+1);unfold chn;split<;>simp<;>omega
theorem Pt{cs:List ByteArray}{ws:List ae}{a:Int}{wz wr:World}{t:Nat}{js:List Nat}{vs:List EnV}{A:Option Addr}{c:Nat}(h:RnJ cs ws a wz t js vs A c wr)(ha:0≤a∧a≤2147483647):vs.length≤4294967296:=by have h1:=rv h.ens;have h2:=congrArg List.length h.all;rw [List.length_append]at h2;have h3:=Wx (g:=lgN cs ws) (dr cs ws a-a).toNat 2 (cs.length-2) (a+1);have h4:=Gg (cs:=cs) (ws:=ws) (a:=a) (by omega);unfold sj at h2;omega
theorem e0f(A:Option Addr)(n c:Nat)(cs:List ByteArray)(A':Option Addr)(n' c':Nat)(ws:List ae)(a:Int)(w:World)(r:ab w w.heap.size A n c (fun z=>[.string z]) 1 cs)(r':ab w w.heap.size A' n' c' ae.cells 2 ws):Calls Tryz.prog 11 #[.agg #[.slice A n c,.slice A' n' c'],.int .i64 a] w (Ap cs ws a w):=by
 have gs:=r.len;subst gs;have ga:=r'.len;subst ga;obtain⟨wa,hx⟩:∃wa,wa=w.alloc (.cells #[.slice A cs.length c,.slice A' ws.length c'] 25):=⟨_,rfl⟩;have hf:Below w.heap.size w wa:=by rw [hx];exact br.alloc ler _
 have hg:wa.heap[w.heap.size]?=some (.cells #[.slice A cs.length c,.slice A' ws.length c'] 25 (0,0)):=by rw [hx];exact A_ w _
 have hC:=hf.size;have RA:=h_ ((r.below hf).more hC);have hL:=h_ ((r'.below hf).more hC);have h7:=h_ (xe A cs.length c cs A' ws.length c' ws wa RA.o hL.o)
 have HC:Hid (∀W,Below wa.heap.size wa W→W.cell? ⟨w.heap.size,0,none⟩=some (.slice A cs.length c)∧W.cell? ⟨w.heap.size,1,none⟩=some (.slice A' ws.length c')):=fun W h=>by have q0:=ah hg (ag hg) h;exact⟨aj q0 0,aj q0 1⟩
 have c0:=rc0 hg;have c1:=rc1 hg;have hr:=h_ hx;have h5:=h_ hf;clear r r' hx hf hg hC;by_cases hd:au cs ws=0
 ·rw [hd]at h7;by_cases ha:a <0∨2147483647 <a
  ·have F:=h_ (Ot hd ha);have HD:=h_ hd;clear hd;rcases ha with ha|ha
   ·go_enter Tryz.func11,Tryz.ntmps11;go_wp2_with(go_at_call 9;rw [←hr.o];refine h7.o.mono ?_;rintro e w1 ⟨rfl,h0⟩);go_ret3;exact .inl ⟨by rw [F.o];decide,by rw [F.o];rfl,h5.o.trans (h0.mono h5.o.size)⟩
   ·have gU:¬a <0:=by omega
    go_enter Tryz.func11,Tryz.ntmps11;go_wp2_with(go_at_call 9;rw [←hr.o];refine h7.o.mono ?_;rintro e w1 ⟨rfl,h0⟩);go_ret3;exact .inl ⟨by rw [F.o];decide,by rw [F.o];rfl,h5.o.trans (h0.mono h5.o.size)⟩
  ·have F:=h_ (yn hd ha);have HD:=h_ hd;have hR:=h_ (jz hd);have g2:0≤a:=by omega
   have g8:a≤2147483647:=by omega
   have gW:(cs.length:Int)≤128:=by have:=hR.o.2.1;omega
   have g7:= @run_makeMap Tryz.prog;clear hd ha;go_enter Tryz.func11,Tryz.ntmps11;go_wp2_with(go_at_call 9;rw [←hr.o];refine h7.o.mono ?_;rintro e w1 ⟨rfl,h0⟩;have h6:=h_ h0;obtain⟨k0,k1⟩:=HC.o _ (h0.alloc h0.size (.map #[] 0));clear h0)
   have I0:Hid (RnI cs ws w1 cs.length (.map []) (fun _=>none) (w1.alloc (.map #[] 0))):=
    {map:=by rw [Nat.sub_self];exact World.ownsMap_made _ _ _ _,is:=m0z,fs:=fun x=>by rw [Nat.sub_self];exact⟨fun _=>rfl,fun j h=>by cases h⟩,below:=br.alloc ler _,size:=by simp}
   have HN:Hid (∀(W:World) (k:Nat),Below w1.heap.size w1 W→k <cs.length→Calls Tryz.prog 25 #[.agg #[.slice A cs.length c,.slice A' ws.length c'],.int .i64 k] W (qu (ar cs ws k) W)):=fun W k h hk=>by have hb:=h6.o.trans (h.mono h6.o.size);exact Ov A _ c cs A' _ c' ws k W ((RA.o.below hb).more hb.size) ((hL.o.below hb).more hb.size) hk hR.o.2.2.2.2
   unfold qu at HN;clear k0 k1 c0 c1 g7 h7 RA hL;go_loopw [9,10] (fun v9 v10 wr=>∃(k:Nat) (i:Int) (D:DataW Value) (f:Int→Option EnV),k≤cs.length∧Hid (i+1=(k:Int)∧(2≤k∨k=cs.length))∧v10= .int .i64 i∧v9= .int .i64 (mo (lgN cs ws) a k (cs.length-k))∧Hid (RnI cs ws w1 k D f wr)) (fun _ v10 _=>(intOf v10+1).toNat)
   case atStart=>exact⟨cs.length,(cs.length:Int)-1,_,_,Nat.le_refl _,⟨by omega,.inr rfl⟩,rfl,by rw [Nat.sub_self];rfl,I0.o⟩
   case round=>
    obtain⟨k,i,D,f,hk,HI,rfl,rfl,hP⟩:=hrel;obtain⟨wq,rfl⟩:∃z:World,z=wr:=⟨_,rfl⟩;clear I0;by_cases h3:3≤k
    ·obtain⟨j,rfl⟩:∃j,k=j+1:=⟨k-1,by omega⟩;obtain rfl:i=(j:Int):=by have:=HI.o.1;omega
     have j2:(2:Int)≤(j:Int):=by omega
     have j3:(j:Int)≤128:=by omega
     have HK:=h_ hk;obtain⟨k0,k1⟩:=HC.o wq (h6.o.trans (hP.o.below.mono h6.o.size));have hw:=h_ (HN.o wq j hP.o.below (by omega));have g1:Hid ((j:Int)-1+1=(j:Int)∧(2≤j∨j=cs.length)):=⟨by omega,.inl (by omega)⟩;clear h3 hk HI;by_cases ho:scO (ar cs ws j)=true
     ·have HO:=h_ ho;rw [ho]at hw
      have HM:Hid (mo (lgN cs ws) a j (cs.length-j)=max (mo (lgN cs ws) a (j+1) (cs.length- (j+1))) (scN (ar cs ws j))):=by have:=HK.o;simp only [Hid];rw [show cs.length-j=(cs.length- (j+1))+1 by omega,Sy (zm ho)]
      have he:(Lit.int .i64 (scN (ar cs ws j))).wf=true:=WalkArith.wf_i64 (by have:=Ox (ar cs ws j);omega);have hm:Hid (keyOf Tryz.prog 3 (.int .i64 (scN (ar cs ws j)))=some (.int .i64 (scN (ar cs ws j)))):=keyOf_int_mk Tryz.underlying3 he;have GM:Hid (cs.length- (j+1) <maxLen):=by unfold maxLen;simp only [Hid];omega
      have gb:=h_ (fun w1' wm A q d h1 h2 h3 h4=> @f0v cs ws w1 wq w1' wm j D f A q d hP.o (Nat.lt_of_succ_le HK.o) HO.o h1 h2 h3 h4);clear ho he;generalize hn:scN (ar cs ws j)=N at*;generalize hq:mo (lgN cs ws) a (j+1) (cs.length- (j+1))=M at*;have gL:=h_ hn;clear hn hq
      go_wp2_with(first
       |(go_at_call 25;refine hw.o.mono ?_;rintro e w2 ⟨A2,q,d,rfl,hs,h8⟩;have h9:=h_ hs;have hH:=h_ h8;have gC:Hid (w2.ownsMap Tryz.prog 3 vz w1.heap.size (cs.length- (j+1)) D):=(Re hP.o.map h8);clear hs h8)
       |(at_mapUpdate;refine wpList_mapUpdate_own _ rfl _ _ _ 80 rfl 3 58 Cs Tryz.underlying80 vz w1.heap.size _ _ rfl gC.o GM.o _ _ _ rfl rfl hm.o (.held (EnV.val ⟨(j:Int),A2,q,d,scB (ar cs ws j)⟩)) [] rfl ?_;intro wm gG g3))
      have HF:=h_ (gb.o w2 wm A2 q d hH.o h9.o gG g3);go_roundw
      case rel=>exact⟨j,(j:Int)-1,_,_,by have:=HK.o;omega,g1,rfl,(by rw [HM.o];try (first|rfl|(congr 1;(try split)<;>omega))),HF.o⟩
      case measure=>(simp [intOf];try omega)
     ·have hp:scO (ar cs ws j)=false:=by simpa using ho
      have HO:=h_ hp;rw [hp]at hw
      have HM:Hid (mo (lgN cs ws) a j (cs.length-j)=mo (lgN cs ws) a (j+1) (cs.length- (j+1))):=by have:=HK.o;simp only [Hid];rw [show cs.length-j=(cs.length- (j+1))+1 by omega,T0 (Cv hp)]
      have gw:=h_ (fun w1' h1=> @f0w cs ws w1 wq w1' j D f hP.o (Nat.lt_of_succ_le HK.o) HO.o h1);clear ho hp;generalize hq:mo (lgN cs ws) a (j+1) (cs.length- (j+1))=M at*;clear hq;go_wp2_with(go_at_call 25;refine hw.o.mono ?_;rintro e w2 ⟨A2,q,d,rfl,hs,h8⟩;have hH:=h_ h8;clear hs h8);have HF:=h_ (gw.o w2 hH.o);go_roundw
      case rel=>exact⟨j,(j:Int)-1,_,_,by have:=HK.o;omega,g1,rfl,(by rw [HM.o]),HF.o⟩
      case measure=>(simp [intOf];try omega)
    ·have hN:Hid (mo (lgN cs ws) a k (cs.length-k)=dr cs ws a):=by
      rcases HI.o.2 with h|h
      ·obtain rfl:k=2:=by omega
       rfl
      ·subst h;simp only [Hid];unfold dr;rw [Nat.sub_self,show cs.length-2=0 by omega];rfl
     have hX:Hid (∀x,ff (lgN cs ws) k (cs.length-k) x=ff (lgN cs ws) 2 (cs.length-2) x):=by
      rcases HI.o.2 with h|h
      ·obtain rfl:k=2:=by omega
       exact fun _=>rfl
      ·subst h;intro x;rw [Nat.sub_self,show cs.length-2=0 by omega];rfl
     have i2:i <2:=by have:=HI.o.1;omega
     have gM:¬2≤i:=by omega
     have hY:Hid (∀x,(ff (lgN cs ws) 2 (cs.length-2) x=none→f x=none)∧∀j,ff (lgN cs ws) 2 (cs.length-2) x=some j→∃v,f x=some v∧ku cs ws wq wq.heap.size j v):=fun x=>by rw [←hX.o x];exact hP.o.fs x
     have g9:=h_ hP.o.map;have hA:=h_ hP.o.is;have hS:Hid (Below w.heap.size w wq):=h5.o.trans ((h6.o.trans (hP.o.below.mono h6.o.size)).mono h5.o.size);have gK:Hid (w1.heap.size+1≤wq.heap.size):=hP.o.size;have gB:=h_ (Gg (cs:=cs) (ws:=ws) (a:=a) (by omega));rw [hN.o];clear hN hX hP HN HI HC h3 hk;generalize cs.length-k=kk at*;have J0:=h_ (Ps cs ws a wq);go_wp2;go_loopw [15,16,17] (fun v15 v16 v17 wr=>∃(t:Nat) (js:List Nat) (vs:List EnV) (A:Option Addr) (c:Nat),Hid (t≤4294967296)∧v17= .int .i64 (a+1+(t:Int))∧v16= .int .i64 ((stp (lgB cs ws) js).length:Nat)∧v15= .slice A vs.length c∧Hid (RnJ cs ws a wq t js vs A c wr)) (fun _ _ v17 _=>(4294967298+a-intOf v17).toNat)
     case atStart=>exact⟨0,[],[],none,0,zl,by go_num,rfl,rfl,J0.o⟩
     case round=>
      obtain⟨t,js,vs,A3,c3,ht,rfl,rfl,rfl,hJ⟩:=hrel;obtain⟨wz,rfl⟩:∃z:World,z=wr:=⟨_,rfl⟩;clear J0;have hb:=hJ.o.below;have hB:=h_ (Re g9.o hb);have HT:=h_ (hJ.o.top);have gN:(t:Int)≤4294967296:=by have:=ht.o;omega
      have gJ:(vs.length:Int)≤4294967296:=by have:=Pt hJ.o ⟨g2,g8⟩;omega
      have he:(Lit.int .i64 (a+1+(t:Int))).wf=true:=WalkArith.wf_i64 (by omega);have hm:Hid (keyOf Tryz.prog 3 (.int .i64 (a+1+(t:Int)))=some (.int .i64 (a+1+(t:Int)))):=keyOf_int_mk Tryz.underlying3 he;have hW:=h_ (rv hJ.o.ens);clear he hb;cases hff:ff (lgN cs ws) 2 (cs.length-2) (a+1+(t:Int))with
      |none=>
       have hV:Hid (f (a+1+(t:Int))=none):=(hY.o _).1 hff;have HE:=h_ (Gp hJ.o hff);have HQ:Hid (stp (lgB cs ws) js=jh cs ws a):=by simp only [Hid,jh];rw [Gp hJ.o hff]
       have gH:=h_ (c0a (b:=lgB cs ws) js);have g5:=h_ (b0z (b:=lgB cs ws) js);have hu:Hid ((f (a+1+(t:Int))).isSome=false):=by simp only [Hid];rw [hV.o];rfl
       have h9:Hid ((f (a+1+(t:Int))).getD en0=en0):=by simp only [Hid];rw [hV.o];rfl
       have hG:=h_ (hJ.o.own.rows (enc:=EnV.cells) (k:=3) (fun _=>rfl) (by decide));have gX:(vs.length:Int)≤(c3:Int):=by have:=hG.o.le;omega
       have gF:=h_ hG.o.top;have gD:=h_ hJ.o.ens;have hT:=h_ hJ.o.below;clear hff;generalize hq:(stp (lgB cs ws) js).length=Q at*;have gQ:=h_ hq;have gT:(Q:Int)≤(vs.length:Int):=by have:=gH.o;have:=hW.o;omega
       have gP:(0:Int)≤(Q:Int):=by omega
       have gI:(Q:Int)≤(c3:Int):=by omega
       clear hq hJ;go_wp2_with(at_lookup;refine Fh _ rfl _ _ 80 rfl 3 58 Cs Tryz.underlying80 (Fd _) w1.heap.size _ D f hA.o rfl hB.o _ rfl hm.o false en0 hu.o h9.o ?_);go_ret3;have hy:Below wq.heap.size wq (wz.alloc (.cells #[.int .i64 en0.i,.slice en0.A en0.n en0.c,.bool en0.b] 58)):=hT.o.alloc hT.o.size _;refine .inr ⟨F.o,⟨A3,Q,Q,vs.take Q,rfl,?_,?_⟩,hS.o.trans (hy.mono hS.o.size)⟩
       ·exact(Ph ((hG.o.alloc ler _).more (by simp)) (by omega) ler (Nat.le_trans (by omega) gF.o))
       ·rw [←HQ.o,←g5.o];exact K5 Q (th hy.size hy gD.o)
      |some j=>
       obtain⟨v,hv,hD⟩:=(hY.o _).2 j hff;have hu:Hid ((f (a+1+(t:Int))).isSome=true):=by simp only [Hid];rw [hv];rfl
       have h9:Hid ((f (a+1+(t:Int))).getD en0=v):=by simp only [Hid];rw [hv];rfl
       have g6:=h_ (Gn hff);have gE:=h_ hff;have gg:=h_ hD;have hz:Hid (v.b=lgB cs ws j):=hD.last;clear hff hv hD;obtain⟨vi,vA,vn,vc,vb⟩:=v;simp only at hz;have hh:=A_ wz (.cells #[.int .i64 vi,.slice vA vn vc,.bool vb] 58);obtain⟨wo,hc⟩:∃z:World,z=wz.alloc (.cells #[.int .i64 vi,.slice vA vn vc,.bool vb] 58):=⟨_,rfl⟩;rw [←hc]at hh;have hM:Below wq.heap.size wq wo:=by rw [hc];exact hJ.o.below.alloc hJ.o.below.size _
       have c0:=rc0 hh;have c1:=rc1 hh;have c2:=rc2 hh;have OW:Hid (af wo wq.heap.size 3 (.slice A3 vs.length c3) vs.length (vs.flatMap EnV.cells)):=by rw [hc];exact hJ.o.own.alloc _
       have hQ:Hid (Value.ownBlock (.slice A3 vs.length c3)≠some wz.heap.size):=hJ.o.own.ne_of_le ler;have HZ:Hid (wo.heap.size=wz.heap.size+1):=by rw [hc];simp [Hid]
       have hK:=h_ hM;have hZ:=h_ hc;have G2:Hid (∀u∈(#[.int .i64 vi,.slice vA vn vc,.bool vb]:Array Value).toList,u.oneCell'=true):=by simp [Hid,Value.oneCell']
       have G3:Hid (vs.length+1≤maxLen∧(vs.length+1)*40≤140737488355328):=by unfold maxLen;simp only [Hid];omega
       have G4:Hid (0 <3):=by simp [Hid]
       have g0:Hid (t+1≤4294967296):=by have:=g6.o;have:=gB.o;simp only [Hid];omega
       have hU:=h_ (fun(w5:World) (A4:Option Addr) (c4:Nat) (row:Option Nat) hl hown=> @Pu cs ws a wq wz wo w5 t j js vs A3 A4 c3 c4 ⟨vi,vA,vn,vc,vb⟩ row hJ.o gE.o gg.o hK.o hl hown);clear hh hM hc;cases vb
       ·have hF:Hid ((stp (lgB cs ws) (js++[j])).length=(stp (lgB cs ws) js).length):=by simp only [Hid];rw [O4 hz.o.symm]
        go_wp2_with(first
         |(at_lookup;refine Fh _ rfl _ _ 80 rfl 3 58 Cs Tryz.underlying80 (Fd _) w1.heap.size _ D f hA.o rfl hB.o _ rfl hm.o true _ hu.o h9.o ?_)
         |(at_builtin;rw [←hZ.o];refine dx (size:=3) (bytes:=40) (base:=wq.heap.size) (H:=wz.heap.size+1) (news:= #[.int .i64 vi,.slice vA vn vc,.bool false]) rfl rfl Tryz.underlying48 D9 rfl G4.o OW.o rfl hK.o.size rfl HZ.o rfl G2.o G3.o.1 G3.o.2 ?_;intro A4 c4 w5 hI hj g4;have x2:=hj.cell c2 hQ.o))
        obtain⟨F5,e5⟩:=hU.o w5 A4 c4 _ hj hI;have HF:=h_ F5;have HE:=h_ e5;clear F5 e5;go_roundw
        case rel=>exact⟨t+1,js++[j],_,A4,c4,g0.o,lw (by omega),by rw [hF.o],by rw [HE.o],HF.o⟩
        case measure=>(simp [intOf];try omega)
       ·have hF:Hid ((stp (lgB cs ws) (js++[j])).length=vs.length+1):=by simp only [Hid];rw [O3 hz.o.symm,List.length_append,hW.o];rfl
        go_wp2_with(first
         |(at_lookup;refine Fh _ rfl _ _ 80 rfl 3 58 Cs Tryz.underlying80 (Fd _) w1.heap.size _ D f hA.o rfl hB.o _ rfl hm.o true _ hu.o h9.o ?_)
         |(at_builtin;rw [←hZ.o];refine dx (size:=3) (bytes:=40) (base:=wq.heap.size) (H:=wz.heap.size+1) (news:= #[.int .i64 vi,.slice vA vn vc,.bool true]) rfl rfl Tryz.underlying48 D9 rfl G4.o OW.o rfl hK.o.size rfl HZ.o rfl G2.o G3.o.1 G3.o.2 ?_;intro A4 c4 w5 hI hj g4;have x2:=hj.cell c2 hQ.o))
        obtain⟨F5,e5⟩:=hU.o w5 A4 c4 _ hj hI;have HF:=h_ F5;have HE:=h_ e5;clear F5 e5;go_roundw
        case rel=>exact⟨t+1,js++[j],_,A4,c4,g0.o,lw (by omega),lw (by rw [hF.o];omega),by rw [HE.o],HF.o⟩
        case measure=>(simp [intOf];try omega)
 ·have F:=h_ (Oq (a:=a) hd);generalize hE:au cs ws=E at*;have gS:(E !=0)=true:=bN hd;have HD:=h_ hd;clear hd hE;go_enter Tryz.func11,Tryz.ntmps11;go_wp2_with(go_at_call 9;rw [←hr.o];refine h7.o.mono ?_;rintro e w1 ⟨rfl,h0⟩);go_ret3;exact .inl ⟨by rw [F.o];exact HD.o,by rw [F.o];rfl,h5.o.trans (h0.mono h5.o.size)⟩
end
section
open Go.RowKit
noncomputable def jk(cs:List ByteArray):List Nat→List aa×List Int→Option (List aa×List Int)
 | [],m=>some m
 |j::js,m=>match ft j 0 (scL (ar cs [] j)) m with
  |none=>none
  |some m1=>jk cs js m1
section
variable {cs:List ByteArray} {js:List Nat} {j i:Nat} {m m1:List aa×List Int}
theorem Qc(h:js[i]?=some j)(hv:ft j 0 (scL (ar cs [] j)) m=none):jk cs (js.drop i) m=none:=by have hi:=(gS.1 h).1;rw [List.drop_eq_getElem_cons hi,(gS.1 h).2];simp only [jk,hv]
theorem Qa(h:js[i]?=some j)(hv:ft j 0 (scL (ar cs [] j)) m=some m1):jk cs (js.drop i) m=jk cs (js.drop (i+1)) m1:=by have hi:=(gS.1 h).1;rw [List.drop_eq_getElem_cons hi,(gS.1 h).2];simp only [jk,hv]
theorem Qb(h:js.length≤i):jk cs (js.drop i) m=some m:=by rw [List.drop_eq_nil_of_le h];rfl
end
theorem e0w{b:Nat}{cs:List ByteArray}{fr:List Int}{os:List OpD}{z t:Int}{on:Nat}{w W:World}{f:FuncId}{args:Array Value}{r:Option (List aa×List Int)}(h:Calls Tryz.prog f args W (xt b cs r fr os z t on w))(hr:r=none):Calls Tryz.prog f args W fun e w'=>∃E:Int,e= .returned (.int .i64 E)∧(E !=0)=true∧Below b w w':=
 h.mono fun _ _ h=>by
  rcases h with⟨m,v,h,_⟩|⟨_,⟨E,h1,h2⟩,h3⟩
  ·rw [hr]at h;cases h
  ·exact⟨E,h2,h1,h3⟩
theorem e0v{b:Nat}{cs:List ByteArray}{fr:List Int}{os:List OpD}{z t:Int}{on:Nat}{w W:World}{f:FuncId}{args:Array Value}{r:Option (List aa×List Int)}{m:List aa×List Int}(h:Calls Tryz.prog f args W (xt b cs r fr os z t on w))(hr:r=some m):Calls Tryz.prog f args W fun e w'=>e= .returned (.int .i64 0)∧∃v,RpS b cs m fr os z t on w w' v:=
 h.mono fun _ _ h=>by
  rcases h with⟨m',v,h,h1,h2⟩|⟨h,_⟩
  ·rw [hr]at h;injection h with h;subst h;exact⟨h1,v,h2⟩
  ·rw [hr]at h;cases h
noncomputable def mtM(cs:List ByteArray):Option (List aa×List Int):=jk cs (jh cs [] (prS (nwU cs []))) (prP (nwU cs []),prG (nwU cs []))
open Classical in
noncomputable def mtE(cs:List ByteArray)(ws:List ae):Int:=
 if au cs ws≠0 then au cs ws else if ws≠ []then 1 else if nwE cs []≠0 then nwE cs []else if kj cs [] (prS (nwU cs []))≠0 then kj cs [] (prS (nwU cs []))
 else match mtM cs with
  |none=>18
  |some m=>if ea cs m.1 m.2 then syE cs [] m.1 m.2 (dr cs [] (prS (nwU cs []))) (prN (nwU cs []))else 18
def pj(cs:List ByteArray)(ws:List ae)(w:World)(e:Ending)(w':World):Prop:=
 Below w.heap.size w w'∧((mtE cs ws=0∧∃b m v fr os,e= .returned (.tuple #[.pointer (some ⟨b,0,none⟩),.int .i64 0])∧mtM cs=some m∧ea cs m.1 m.2∧FsT b (syX cs [] m.1 m.2 (dr cs [] (prS (nwU cs []))) (prN (nwU cs []))) [] m.1 m.2 fr os v w')∨(mtE cs ws≠0∧e= .returned (.tuple #[.pointer none,.int .i64 (mtE cs ws)])))
theorem q0x{α:Type}{enc:α→List Value}{k:Nat}(hk:∀x,(enc x).length=k)(hk0:0 <k)(ys:List α)(j:Nat)(u:Value)(h:(ys.flatMap enc)[j]?=some u):∃x,ys[j/k]?=some x∧(enc x)[j%k]?=some u:=by
 have hj:=(gS.1 h).1;rw [ww hk]at hj;have hi:j/k <ys.length:=Nat.div_lt_of_lt_mul (by rw [Nat.mul_comm];exact hj);have hx:ys[j/k]?=some ys[j/k]:=gE hi;have hm:j%k < (enc ys[j/k]).length:=by rw [hk];exact Nat.mod_lt _ hk0
 have hu:=gE hm;have:=nw hk ys (j/k) _ hx (j%k) _ hu;rw [Nat.mul_comm,Nat.div_add_mod,h]at this;exact⟨_,hx,by rw [hu,←this]⟩
section
variable {P:Program} {w:World} {ops:Array Oper} {rest:List Oper} {o:Oper} {a:Act} {K:Act→World→Prop} {Q:Exit→Act→World→Prop} {E:Prop}
theorem e0a{t ty e:TypeId}{z:Value}{size bytes:Nat}(ht:P.underlying t=some (.slice e))(hinfo:(P.info? e).map (fun i=>(i.zero,i.size,i.bytes))=some (some z,size,bytes))(c:Nat):(Builtin.append_ #[t,t] ty #[.slice none 0 0,.slice none 0 c]).run P w= .ok (.slice none 0 0) w:=by obtain⟨i,hi,h0,h1,h2⟩:=info_parts hinfo;simp [Builtin.append_,run_underlying ht,sizeOf,typeInfo,hi,Builtin.lenOf,Builtin.firstCells]
theorem e0e{α:Type}{enc:α→List Value}{t ty e:TypeId}{z:Value}{size bytes:Nat}(ht:P.underlying t=some (.slice e))(hinfo:(P.info? e).map (fun i=>(i.zero,i.size,i.bytes))=some (some z,size,bytes))(hzs:z.cells.size=size)(hsz:0 <size){D:Option Addr}{m c B:Nat}{ys:List α}(hr:ab w B D m c enc size ys)(hlen:∀y,(enc y).length=size)(h1:∀y,∀u∈enc y,u.oneCell'=true)(h63:m≤maxLen)(hbytes:m*bytes≤140737488355328):∃A' c' w',(Builtin.append_ #[t,t] ty #[.slice none 0 0,.slice D m c]).run P w= .ok (.slice A' m c') w'∧af w' w.heap.size size (.slice A' m c') m (ys.flatMap enc)∧Below w.heap.size w w':=by
 cases D with
 |none=>
  have hm:ys=[]:=by
   cases ys with
   |nil=>rfl
   |cons y ys=>obtain⟨_,_,e,_⟩:=hr.at_ 0 y rfl;cases e
  subst hm;obtain rfl:0=m:=hr.len;exact⟨none,0,w,e0a ht hinfo c,af.nil _ _ _,br⟩
 |some ad=>
  obtain⟨v',w',h0,h2,h3,h4⟩:=yq (P:=P) (w:=w) (ty:=ty) ht hinfo hzs hsz (af.nil w w.heap.size size) ler ad m c (ys.flatMap enc) (by rw [ww hlen,hr.len]) (fun j u hu=>by
 obtain⟨y,hy,h5⟩:=q0x hlen hsz ys j u hu
 obtain⟨b,of,e,_,hc⟩:=hr.at_ _ y hy
 injection e with e
 subst e
 have:=hc _ u h5
 rw [Nat.add_assoc,Nat.mul_comm,Nat.div_add_mod]at this
 rw [ms];exact this) (fun u hu=>by
 obtain⟨y,_,hy⟩:=List.mem_flatMap.1 hu
 exact h1 y u hy) (by simpa using h63) (by simpa using hbytes)
  rw [Nat.zero_add,List.nil_append]at h2;obtain⟨A',c',rfl⟩:=h2.form;exact⟨A',c',w',h0,h2,h3.below ler br⟩
theorem yg{α:Type}{enc:α→List Value}(hgd:o.guard=none)(s x:Operand)(t:TypeId)(ho:o.op= .call {callee:=.builtin .append,args:= #[s,x],argTypes:= #[t,t]})
 {e:TypeId} {z:Value} {size bytes:Nat} (ht:P.underlying t=some (.slice e)) (hinfo:(P.info? e).map (fun i=>(i.zero,i.size,i.bytes))=some (some z,size,bytes)) (hzs:z.cells.size=size) (hsz:0 <size) (hs:a.eval s= .slice none 0 0)
 {D:Option Addr} {m c B:Nat} (hx:a.eval x= .slice D m c) {ys:List α} (hr:ab w B D m c enc size ys) (hlen:∀y,(enc y).length=size) (h1:∀y,∀u∈enc y,u.oneCell'=true) (h63:m≤maxLen) (hbytes:m*bytes≤140737488355328)
 (h:∀A' c' w',af w' w.heap.size size (.slice A' m c') m (ys.flatMap enc)→Below w.heap.size w w'→K (a.put o.dst (.slice A' m c')) w'):
 if Region.wanted o (yielded ops a.tmps)=true then Oper.wp P o a w K Q else E:=by
 have hw:Region.wanted o (yielded ops a.tmps)=true:=by simp [Region.wanted,hgd]
 rw [if_pos hw]
 obtain⟨A',c',w',h0,h2,h3⟩:=e0e (P:=P) (w:=w) (ty:=o.type) ht hinfo hzs hsz hr hlen h1 h63 hbytes
 unfold Oper.wp execOp
 simp only [ho,resolve,invoke,builtin,Sem.run_bind,Sem.run_pure,Result.andThen_ok,List.map_toArray,List.map_cons,List.map_nil,hs,hx,h0]
 exact h A' c' w' h2 h3
end
end
end Go.Proofs.YtcldpfhpkbeaiadGreat
