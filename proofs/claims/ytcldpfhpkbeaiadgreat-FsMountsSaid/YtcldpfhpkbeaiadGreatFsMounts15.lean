/- A part of the proof of FsMounts. No condition of ours. -/
import Derived.Test.YtcldpfhpkbeaiadGreatFsMounts11
import Derived.Laws.MakeOwn
set_option maxRecDepth 20000
set_option maxHeartbeats 1000000
namespace Go.Proofs.YtcldpfhpkbeaiadGreat
open Go.RowKit
def dy(v:Value)(F G C:Nat→Int):Array Value:= #[v,.int .i64 (F 0),.int .i64 (F 1),.int .i64 (F 2),.int .i64 (F 3),.int .i64 (F 4),.int .i64 (F 5),.int .i64 (F 6),.int .i64 (F 7),.int .i64 (F 8),.int .i64 (F 9),.int .i64 (F 10),.int .i64 (F 11),.int .i64 (F 12),.int .i64 (F 13),.int .i64 (F 14),.int .i64 (F 15),.int .i64 (G 0),.int .i64 (G 1),.int .i64 (G 2),.int .i64 (G 3),.int .i64 (G 4),.int .i64 (G 5),.int .i64 (G 6),.int .i64 (G 7),.int .i64 (G 8),.int .i64 (G 9),.int .i64 (G 10),.int .i64 (G 11),.int .i64 (G 12),.int .i64 (G 13),.int .i64 (G 14),.int .i64 (G 15),.int .i64 (C 0),.int .i64 (C 1),.int .i64 (C 2),.int .i64 (C 3),.int .i64 (C 4),.int .i64 (C 5),.int .i64 (C 6),.int .i64 (C 7),.int .i64 (C 8),.int .i64 (C 9),.int .i64 (C 10),.int .i64 (C 11),.int .i64 (C 12),.int .i64 (C 13),.int .i64 (C 14),.int .i64 (C 15)]
def upd(F:Nat→Int)(j:Nat)(x:Int):Nat→Int:=fun k=>if k=j then x else F k
theorem Xx(v:Value)(F G C:Nat→Int):(dy v F G C)[0]?=some v:=rfl
theorem v0b(v u:Value)(F G C:Nat→Int):(dy v F G C).setIfInBounds 0 u=dy u F G C:=rfl
theorem Ku(v:Value)(F G C:Nat→Int):∀j,j <16→(dy v F G C)[1+j]?=some (.int .i64 (F j))
 |0,_=>rfl
 |1,_=>rfl
 |2,_=>rfl
 |3,_=>rfl
 |4,_=>rfl
 |5,_=>rfl
 |6,_=>rfl
 |7,_=>rfl
 |8,_=>rfl
 |9,_=>rfl
 |10,_=>rfl
 |11,_=>rfl
 |12,_=>rfl
 |13,_=>rfl
 |14,_=>rfl
 |15,_=>rfl
 |j+16,h=>by omega
theorem v0d(v:Value)(F G C:Nat→Int)(x:Int):∀j,j <16→(dy v F G C).setIfInBounds (1+j) (.int .i64 x)=dy v (upd F j x) G C
 |0,_=>rfl
 |1,_=>rfl
 |2,_=>rfl
 |3,_=>rfl
 |4,_=>rfl
 |5,_=>rfl
 |6,_=>rfl
 |7,_=>rfl
 |8,_=>rfl
 |9,_=>rfl
 |10,_=>rfl
 |11,_=>rfl
 |12,_=>rfl
 |13,_=>rfl
 |14,_=>rfl
 |15,_=>rfl
 |j+16,h=>by omega
theorem Xz(v:Value)(F G C:Nat→Int):∀j,j <16→(dy v F G C)[17+j]?=some (.int .i64 (G j))
 |0,_=>rfl
 |1,_=>rfl
 |2,_=>rfl
 |3,_=>rfl
 |4,_=>rfl
 |5,_=>rfl
 |6,_=>rfl
 |7,_=>rfl
 |8,_=>rfl
 |9,_=>rfl
 |10,_=>rfl
 |11,_=>rfl
 |12,_=>rfl
 |13,_=>rfl
 |14,_=>rfl
 |15,_=>rfl
 |j+16,h=>by omega
theorem v0c(v:Value)(F G C:Nat→Int)(x:Int):∀j,j <16→(dy v F G C).setIfInBounds (17+j) (.int .i64 x)=dy v F (upd G j x) C
 |0,_=>rfl
 |1,_=>rfl
 |2,_=>rfl
 |3,_=>rfl
 |4,_=>rfl
 |5,_=>rfl
 |6,_=>rfl
 |7,_=>rfl
 |8,_=>rfl
 |9,_=>rfl
 |10,_=>rfl
 |11,_=>rfl
 |12,_=>rfl
 |13,_=>rfl
 |14,_=>rfl
 |15,_=>rfl
 |j+16,h=>by omega
theorem Kv(v:Value)(F G C:Nat→Int):∀j,j <16→(dy v F G C)[33+j]?=some (.int .i64 (C j))
 |0,_=>rfl
 |1,_=>rfl
 |2,_=>rfl
 |3,_=>rfl
 |4,_=>rfl
 |5,_=>rfl
 |6,_=>rfl
 |7,_=>rfl
 |8,_=>rfl
 |9,_=>rfl
 |10,_=>rfl
 |11,_=>rfl
 |12,_=>rfl
 |13,_=>rfl
 |14,_=>rfl
 |15,_=>rfl
 |j+16,h=>by omega
theorem Xy(v:Value)(F G C:Nat→Int)(x:Int):∀j,j <16→(dy v F G C).setIfInBounds (33+j) (.int .i64 x)=dy v F G (upd C j x)
 |0,_=>rfl
 |1,_=>rfl
 |2,_=>rfl
 |3,_=>rfl
 |4,_=>rfl
 |5,_=>rfl
 |6,_=>rfl
 |7,_=>rfl
 |8,_=>rfl
 |9,_=>rfl
 |10,_=>rfl
 |11,_=>rfl
 |12,_=>rfl
 |13,_=>rfl
 |14,_=>rfl
 |15,_=>rfl
 |j+16,h=>by omega
theorem xm(v:Value)(F G C:Nat→Int)(A:Option Addr)(n c:Nat)(hv:v= .slice A n c):(dy v F G C).all (·.oneCell')=true:=by subst hv;unfold dy;simp [Value.oneCell']
def iy(l:List Int)(w:Int):Nat→List Int
 |0=>[]
 |k+1=>iy l w k++(if l[k]?=some w then [(k:Int)]else [])
theorem Jf{l:List Int}{w:Int}{k:Nat}{x:Int}(h:l[k]?=some x):iy l w (k+1)=iy l w k++(if x=w then [(k:Int)]else []):=by
 simp only [iy];rw [h];by_cases e:x=w
 ·subst e;simp
 ·rw [if_neg e,if_neg (by intro k;injection k with k;exact e k)]
theorem Dc(l:List Int)(w:Int):∀k,k≤l.length→((iy l w k).length:Int)=bp w (l.take k)
 |0,_=>by simp [iy,bp]
 |k+1,h=>by have e:=gE (l:=l) (i:=k) (by omega);rw [Jf e,List.length_append,qh w l k _ e];have:=Dc l w k (by omega);split<;>simp<;>omega
theorem Uj{l:List Int}{w:Int}{i:Nat}(hi:l[i]?=some w):∀k,i <k→k≤l.length→(iy l w k)[(bp w (l.take i)).toNat]?=some (i:Int)
 |0,h,_=>by omega
 |k+1,h,hk=>by
  have e:=gE (l:=l) (i:=k) (by omega);rw [Jf e];have hl:=Dc l w k (by omega);by_cases hik:i <k
  ·have ih:=Uj hi k hik (by omega);rw [List.getElem?_append_left (gS.1 ih).1];exact ih
  ·obtain rfl:i=k:=by omega
   have hx:l[i]=w:=by rw [e]at hi;injection hi
   rw [if_pos hx,List.getElem?_append_right (by omega),show(bp w (l.take i)).toNat- (iy l w i).length=0 by omega];rfl
def sgL(l:List Int):Nat→List Int
 |0=>[]
 |w+1=>sgL l w++(if w=0 then []else iy l w l.length)
theorem Gc{l:List Int}{w:Nat}(h:0 <w):sgL l (w+1)=sgL l w++iy l w l.length:=by simp only [sgL];rw [if_neg (by omega)]
theorem c0r(l:List Int):sgL l 1=[]:=by simp [sgL]
theorem Oe{l:List Int}{w:Nat}(hw:0 <w){i:Nat}(hi:l[i]?=some (w:Int)):∀W,w <W→(sgL l W)[(sgL l w).length+(bp w (l.take i)).toNat]?=some (i:Int)
 |0,h=>by omega
 |W+1,h=>by
  have h0:=(gS.1 hi).1;by_cases hwW:w <W
  ·have ih:=Oe hw hi W hwW;rw [Gc (by omega),List.getElem?_append_left (gS.1 ih).1];exact ih
  ·obtain rfl:w=W:=by omega
   rw [Gc hw,List.getElem?_append_right (by omega),show(sgL l w).length+(bp w (l.take i)).toNat- (sgL l w).length=(bp w (l.take i)).toNat by omega];exact Uj hi _ h0 ler
theorem Gd(l:List Int):∀W,(sgL l W).length≤W*l.length
 |0=>by simp [sgL]
 |W+1=>by
  have ih:=Gd l W;rw [Nat.add_mul];simp only [sgL,List.length_append];split
  ·simp;omega
  ·have h:=Dc l W l.length ler;have:=(mr W (l.take l.length)).2;simp at this h;omega
def bkF(l:List Int)(k:Nat):Nat→Int:=fun w=>if 0 <w∧w <k then d7 w l else 0
def bkG(l:List Int)(k:Nat):Nat→Int:=fun w=>if 0 <w∧w <k then(sgL l w).length else 0
def bkC(l:List Int):Nat→Int:=fun w=>if 0 <w then bp w l else 0
theorem v0m(l:List Int){k:Nat}(hk:0 <k):upd (bkF l k) k (d7 k l)=bkF l (k+1):=by
 funext w;unfold upd bkF;by_cases h:w=k
 ·subst h;rw [if_pos rfl,if_pos ⟨hk,by omega⟩]
 ·rw [if_neg h];by_cases h2:0 <w∧w <k
  ·rw [if_pos h2,if_pos ⟨h2.1,by omega⟩]
  ·rw [if_neg h2,if_neg (by omega)]
theorem v0k(l:List Int){k:Nat}(hk:0 <k):upd (bkG l k) k ((sgL l k).length:Int)=bkG l (k+1):=by
 funext w;unfold upd bkG;by_cases h:w=k
 ·subst h;rw [if_pos rfl,if_pos ⟨hk,by omega⟩]
 ·rw [if_neg h];by_cases h2:0 <w∧w <k
  ·rw [if_pos h2,if_pos ⟨h2.1,by omega⟩]
  ·rw [if_neg h2,if_neg (by omega)]
theorem v0j(l:List Int):bkF l 1=(fun _=>0)∧bkG l 1=(fun _=>0):=by constructor<;>(funext w;first|unfold bkF|unfold bkG)<;>rw [if_neg (by omega)]
theorem t0z(l:List Int){i:Nat}{x:Nat}(h:l[i]?=some (x:Int)):upd (fun w=>bp w (l.take i)) x (bp x (l.take i)+1)=(fun w:Nat=>bp w (l.take (i+1))):=by
 funext w;unfold upd;rw [qh w l i _ h];by_cases e:w=x
 ·subst e;rw [if_pos rfl,if_pos rfl]
 ·rw [if_neg e,if_neg (by omega),Int.add_zero]
theorem t0y(l:List Int):(fun w:Nat=>bp w (l.take 0))=(fun _=>0):=by funext w;simp [bp]
theorem u0c(l:List Int):upd (fun w:Nat=>bp w (l.take l.length)) 0 0=bkC l:=by
 funext w;unfold upd bkC;rw [List.take_length];by_cases e:w=0
 ·subst e;simp
 ·rw [if_neg e,if_pos (by omega)]
theorem r0f(A:Option Addr)(n c:Nat)(xs:List Int)(B:Nat)(w:World)(r:ab w B A n c (fun z=>[.int .i64 z]) 1 xs):Calls Tryz.prog 155 #[.slice A n c] w fun e w'=>e= .returned (.tuple #[.int .i64 (gz xs),.int .i64 (gk xs)])∧w=w':=by
 have h3:=r.len;obtain rfl:=h3;by_cases hL:320 <xs.length
 ·have F:=h_ (Jw hL);go_enter Tryz.func155,Tryz.ntmps155;go_wp2;go_ret2;exact⟨oj F.o.1.symm F.o.2.symm,rfl⟩
 ·rcases Vg xs with hall|⟨j,y,hj,hy,hbef⟩
  ·have F:=h_ (Jv (by omega) hall);have HA:=h_ hall;clear hall;go_enter Tryz.func155,Tryz.ntmps155;go_wp2;go_loop [4,12] (fun v4 v12=>∃(k:Nat) (s:Int),k≤xs.length∧0≤s∧s≤16384*k∧Hid (s=iz (xs.take k))∧v12= .int .i64 k∧v4= .int .i64 s) (fun _ v12=>xs.length- (intOf v12).toNat)
   case atStart=>exact⟨0,0,zl,by omega,by omega,rfl,rfl,rfl⟩
   case round=>
    obtain⟨k,s,hk,h0,h2,hs,rfl,rfl⟩:=hrel;by_cases hlt:k <xs.length
    ·obtain⟨b,o,rfl,hb,hc⟩:=r.one (gE hlt);have hx:=HA.o xs[k] (List.getElem_mem hlt);have HX:=h_ (q0h xs k _ (gE hlt));have h4:=uy hx.1 hx.2;generalize xs[k]=x at*;go_wp2
     ·go_round
      case rel=>exact⟨k+1,_,by omega,by omega,by omega,by simp only [Hid];rw [HX.o,←hs.o],by go_num,lw (Qj s x (by omega) (by omega) h0 (by omega))⟩
      case measure=>simp [intOf];omega
     ·go_round
      case rel=>exact⟨k+1,s,by omega,by omega,by omega,by rw [HX.o,←hs.o,show pw x=0 by unfold pw;rw [if_neg (by omega)]];simp [Hid],by go_num,rfl⟩
      case measure=>simp [intOf];omega
    ·go_wp2;go_ret2;exact⟨oj (by rw [F.o.1,hs.o,List.take_of_length_le (by omega)]) F.o.2.symm,rfl⟩
  ·have h5:j <xs.length:=(gS.1 hj).1;have F:=h_ (Vh (by omega) hj hy);have HA:=h_ hbef;have HJ:=h_ hj;clear hbef hj;go_enter Tryz.func155,Tryz.ntmps155;go_wp2;go_loop [4,12] (fun v4 v12=>∃(k:Nat) (s:Int),k≤j∧0≤s∧s≤16384*k∧v12= .int .i64 k∧v4= .int .i64 s) (fun _ v12=>xs.length- (intOf v12).toNat)
   case atStart=>exact⟨0,0,zl,by omega,by omega,rfl,rfl⟩
   case round=>
    obtain⟨k,s,hk,h0,h2,rfl,rfl⟩:=hrel;by_cases hlt:k <j
    ·have h1:k <xs.length:=by omega
     obtain⟨b,o,rfl,hb,hc⟩:=r.one (gE h1);have hx:=HA.o k xs[k] hlt (gE h1);have h4:=uy hx.1 hx.2;generalize xs[k]=x at*;go_wp2
     ·go_round
      case rel=>exact⟨k+1,_,by omega,by omega,by omega,by go_num,lw (Qj s x (by omega) (by omega) h0 (by omega))⟩
      case measure=>simp [intOf];omega
     ·go_round
      case rel=>exact⟨k+1,s,by omega,by omega,by omega,by go_num,rfl⟩
      case measure=>simp [intOf];omega
    ·obtain rfl:k=j:=by omega
     obtain⟨b,o,rfl,hb,hc⟩:=r.one HJ.o;go_wp2
     all_goals go_ret2
     all_goals exact⟨oj F.o.1.symm F.o.2.symm,rfl⟩
theorem Qy(k:Nat)(h:k≤15):(0:Int) <2^k∧(2:Int)^k≤32768:=by
 have:k=0∨k=1∨k=2∨k=3∨k=4∨k=5∨k=6∨k=7∨k=8∨k=9∨k=10∨k=11∨k=12∨k=13∨k=14∨k=15:=by omega
 rcases this with rfl|rfl|rfl|rfl|rfl|rfl|rfl|rfl|rfl|rfl|rfl|rfl|rfl|rfl|rfl|rfl<;>decide
theorem rf(n:Int)(w:World)(h0:0≤n)(h1:n≤16):Calls Tryz.prog 128 #[.int .i64 n] w fun e w'=>e= .returned (.int .i64 (2^n.toNat))∧w=w':=by
 obtain⟨m,rfl⟩:=Int.eq_ofNat_of_zero_le h0;rw [Int.toNat_natCast];go_enter Tryz.func128,Tryz.ntmps128;go_wp2;go_loop [3,5] (fun v3 v5=>∃(k:Nat) (p:Int),k≤m∧1≤p∧p≤65536∧Hid (p=2^k)∧v5= .int .i64 k∧v3= .int .i64 p) (fun _ v5=>m- (intOf v5).toNat)
 case atStart=>exact⟨0,1,zl,by omega,by omega,rfl,rfl,rfl⟩
 case round=>
  obtain⟨k,p,hk,h2,h4,hp,rfl,rfl⟩:=hrel;by_cases hlt:k <m
  ·have hb:=Qy k (by omega);have h3:p≤32768:=by rw [hp.o];exact hb.2
   clear hb;go_wp2;go_round
   case rel=>exact⟨k+1,p*2,by omega,by omega,by omega,by simp only [Hid];rw [hp.o,Int.pow_succ],by go_num,by go_num⟩
   case measure=>simp [intOf];omega
  ·go_wp2;go_ret;exact⟨ax (by rw [hp.o,show k=m by omega]),rfl⟩
theorem r0e(A:Option Addr)(n c:Nat)(xs:List Int)(B:Nat)(w:World)(r:ab w B A n c (fun z=>[.int .i64 z]) 1 xs):Calls Tryz.prog 150 #[.slice A n c] w fun e w'=>e= .returned (.tuple #[.int .i64 (gz xs),.int .i64 (gk xs)])∧w=w':=by
 have h5:=r.len;obtain rfl:=h5;by_cases hL:320 <xs.length
 ·have F:=h_ (Jw hL);go_enter Tryz.func150,Tryz.ntmps150;go_wp2;go_ret2;exact⟨oj F.o.1.symm F.o.2.symm,rfl⟩
 ·rcases Vg xs with hall|⟨j,y,hj,hy,hbef⟩
  ·have F:=h_ (Jv (by omega) hall);have HA:=h_ hall;clear hall;go_enter Tryz.func150,Tryz.ntmps150;go_wp2;go_loop [4,5] (fun v4 v5=>∃v s:Int,-1≤v∧v≤15∧0≤s∧s≤16384*xs.length∧Hid (s=m8 v xs)∧v5= .int .i64 v∧v4= .int .i64 s) (fun _ v5=>(intOf v5+1).toNat)
   case atStart=>exact⟨15,0,by omega,by omega,by omega,by omega,(r0q xs HA.o).symm,rfl,rfl⟩
   case round=>
    obtain⟨v,s,h8,h9,h6,h3,hs,rfl,rfl⟩:=hrel;by_cases hv:0≤v
    ·go_wp2;go_loop [4,17] (fun v4 v17=>∃(k:Nat) (t:Int),k≤xs.length∧0≤t∧t≤16384*xs.length+16384*k∧Hid (t=s+fat v (xs.take k))∧v17= .int .i64 k∧v4= .int .i64 t) (fun _ v17=>xs.length- (intOf v17).toNat)
     case atStart=>exact⟨0,s,zl,by omega,by omega,by simp [Hid,fat],rfl,rfl⟩
     case round=>
      obtain⟨k,t,hk,ha,hd,ht,rfl,rfl⟩:=hrel;by_cases hlt:k <xs.length
      ·obtain⟨b,o,rfl,hb,hc⟩:=r.one (gE hlt);have hx:=HA.o xs[k] (List.getElem_mem hlt);have HX:=h_ (r0k v xs k _ (gE hlt));have hf:=uy hx.1 hx.2;generalize xs[k]=x at*;by_cases hxv:x=v
       ·subst hxv;by_cases hpos:0 <x
        ·have h7:=Qy (15-x).toNat (by omega);have HS:=h_ (g0z t x hpos);go_wp2_with(go_at_call 128;refine(rf _ _ (by omega) (by omega)).mono ?_;rintro e w' ⟨rfl,rfl⟩);go_round
         case rel=>exact⟨k+1,t+pw x,by omega,by omega,by omega,by simp only [Hid];rw [HX.o,if_pos trivial,ht.o];omega,by go_num,lw HS.o⟩
         case measure=>simp [intOf];omega
        ·go_wp2;go_round
         case rel=>exact⟨k+1,t,by omega,by omega,by omega,by simp only [Hid];rw [HX.o,ht.o,show pw x=0 by unfold pw;rw [if_neg hpos]];simp,by go_num,rfl⟩
         case measure=>simp [intOf];omega
       ·have h4:(x==v)=false:=by simpa using hxv
        go_wp2;go_round
        case rel=>exact⟨k+1,t,by omega,by omega,by omega,by simp only [Hid];rw [HX.o,ht.o,if_neg hxv];omega,by go_num,rfl⟩
        case measure=>simp [intOf];omega
      ·have h1:Hid (t=m8 (v-1) xs):=by simp only [Hid];rw [ht.o,hs.o,r0r,List.take_of_length_le (by omega)]
       have h2:=r0t (v-1) xs HA.o;rw [←h1.o]at h2;go_wp2;go_round
       case rel=>exact⟨v-1,t,by omega,by omega,by omega,by omega,h1,by go_num,rfl⟩
       case measure=>simp [intOf];omega
    ·go_wp2;go_ret2;exact⟨oj (by rw [F.o.1,hs.o,show v= -1 by omega,r0s xs HA.o]) F.o.2.symm,rfl⟩
  ·have he:j <xs.length:=(gS.1 hj).1;have F:=h_ (Vh (by omega) hj hy);have HA:=h_ hbef;have HJ:=h_ hj;clear hbef hj;go_enter Tryz.func150,Tryz.ntmps150;go_wp2;refine wp_loop_rounds 1 ?_;rw [rounds_succ];go_wp2;go_loop [4,17] (fun v4 v17=>∃(k:Nat) (s:Int),k≤j∧0≤s∧s≤16384*k∧v17= .int .i64 k∧v4= .int .i64 s) (fun _ v17=>xs.length- (intOf v17).toNat)
   case atStart=>exact⟨0,0,zl,by omega,by omega,rfl,rfl⟩
   case round=>
    obtain⟨k,s,hk,h6,h3,rfl,rfl⟩:=hrel;by_cases hlt:k <j
    ·have h0:k <xs.length:=by omega
     obtain⟨b,o,rfl,hb,hc⟩:=r.one (gE h0);have hx:=HA.o k xs[k] hlt (gE h0);generalize xs[k]=x at*;by_cases hx15:x=15
     ·subst hx15;go_wp2_with(go_at_call 128;refine(rf _ _ (by omega) (by omega)).mono ?_;rintro e w' ⟨rfl,rfl⟩);go_round
      case rel=>exact⟨k+1,s+1,by omega,by omega,by omega,by go_num,by go_num⟩
      case measure=>simp [intOf];omega
     ·have h4:(x==15)=false:=by simpa using hx15
      go_wp2;go_round
      case rel=>exact⟨k+1,s,by omega,by omega,by omega,by go_num,rfl⟩
      case measure=>simp [intOf];omega
    ·obtain rfl:k=j:=by omega
     obtain⟨b,o,rfl,hb,hc⟩:=r.one HJ.o;go_wp2
     all_goals go_ret2
     all_goals exact⟨oj F.o.1.symm F.o.2.symm,rfl⟩
theorem vx:(Tryz.prog.info? 3).map (fun i=>(i.zero,i.size,i.bytes))=some (some (.int .i64 0),1,8):=by kernel_rfl
theorem q0z(xs:List Int):xs.flatMap (fun z=>[Value.int .i64 z])=xs.map (Value.int .i64):=by
 induction xs with
 |nil=>rfl
 |cons x r ih=>simp [ih]
theorem C9{w:World}{base n c:Nat}{A:Option Addr}{xs:List Int}(h:af w base 1 (.slice A n c) n (xs.map (Value.int .i64))):ab w w.heap.size A n c (fun z=>[.int .i64 z]) 1 xs:=by rw [←q0z]at h;exact h.rows (enc:=fun z=>[Value.int .i64 z]) (k:=1) (fun _=>rfl) Nat.one_pos
theorem Cg(w:World)(B:Nat):ab w B none 0 0 (fun z=>[.int .i64 z]) 1 ([]:List Int):=⟨rfl,Nat.le_refl _,zl,fun i x h=>by simp at h⟩
theorem Xg(A:Option Addr)(n c:Nat)(xs:List Int)(w:World)(r:ab w w.heap.size A n c (fun z=>[.int .i64 z]) 1 xs):Calls Tryz.prog 124 #[.slice A n c] w fun e w'=>∃A q c,e= .returned (.tuple #[.slice A q c,.int .i64 (dt xs)])∧ab w' w'.heap.size A q c (fun z=>[.int .i64 z]) 1 (o8 xs)∧Below w.heap.size w w':=by
 have hh:=r.len;obtain rfl:=hh;have H:=h_ (r0e A xs.length c xs w.heap.size w r);by_cases hE:gk xs=0
 ·obtain⟨hL,hA⟩:=Jx hE;have HA:=h_ hA;by_cases hO:32768 <gz xs
  ·have F:=h_ (Kq hE hO);rw [hE]at H;generalize gz xs=fv at*;clear hE hA;go_enter Tryz.func124,Tryz.ntmps124;go_wp2_with(go_at_call 150;refine H.o.mono ?_;rintro e w' ⟨rfl,rfl⟩);go_ret2;exact⟨none,0,0,by rw [F.o.1];rfl,by rw [F.o.2];exact Cg _ _,br⟩
  ·have F:=h_ (Xj hE hO);rw [hE]at H;have hD:gz xs≤32768:=by omega
   generalize gz xs=fv at*;clear hE hA hO;go_enter Tryz.func124,Tryz.ntmps124;go_wp2_with(go_at_call 150;refine H.o.mono ?_;rintro e w' ⟨rfl,rfl⟩);clear H;go_loopw [6,24] (fun v6 v24 wr=>∃i:Nat,i≤xs.length∧v24= .int .i64 i∧af wr w.heap.size 1 v6 i ((lu xs i).map (Value.int .i64))∧Below w.heap.size w wr) (fun _ v24 _=>xs.length- (intOf v24).toNat)
   case atStart=>exact⟨0,zl,rfl,af.nil _ _ _,br⟩
   case round=>
    obtain⟨i,hi,rfl,h4,hb⟩:=hrel;obtain⟨AO,cO,rfl⟩:=h4.form;have hd:=hb.size;by_cases hlt:i <xs.length
    ·have e1:=gE hlt;obtain⟨b,o,rfl,hG,hc⟩:=(r.below hb).one e1;have hx:=HA.o xs[i] (List.getElem_mem hlt);obtain⟨x,ha⟩:∃x,x=xs[i]:=⟨_,rfl⟩;rw [←ha]at hx hc e1;have HX:=h_ (u0s e1);clear ha e1;obtain⟨wo,rfl⟩:∃wo:World,wo=wr:=⟨_,rfl⟩;go_wp2;go_loop [9,31] (fun v9 v31=>∃(j:Nat) (s:Int),j≤xs.length∧0≤s∧s≤32768*j∧Hid (s=ahd xs i x j)∧v31= .int .i64 j∧v9= .int .i64 s) (fun _ v31=>xs.length- (intOf v31).toNat)
     case atStart=>exact⟨0,0,zl,by omega,by omega,(x0h xs i x).symm,rfl,rfl⟩
     case round=>
      obtain⟨j,s,hj,hr,hy,hs,rfl,rfl⟩:=hrel;by_cases hjl:j <xs.length
      ·have e2:=gE hjl;obtain⟨b',o',e',hB,hu⟩:=(r.below hb).one e2;injection e' with e';injection e' with e3 e4 _;subst e3;subst e4;have hv:=HA.o xs[j] (List.getElem_mem hjl);generalize xs[j]=v at*;have hp:=I2 (v:=v) hv.1 hv.2;rcases(show v≤0∨(0 <v∧v <x)∨(0 <v∧x <v)∨(0 <v∧v=x∧j <i)∨(0 <v∧v=x∧i≤j) by omega)with h|⟨h,h2⟩|⟨h,h2⟩|⟨h,h2,h3⟩|⟨h,h2,h3⟩
       ·have G:Hid (s=ahd xs i x (j+1)):=hs.o.trans (Lh e2 (by omega)).symm;clear e2;go_wp2;go_round
        case rel=>exact⟨j+1,s,by omega,by omega,by omega,G,by go_num,rfl⟩
        case measure=>(simp [intOf];try omega)
       ·have G:Hid (s+2^(15-v).toNat=ahd xs i x (j+1)):=by simp only [Hid];rw [x0k e2 h h2,hs.o]
        clear e2;go_wp2_with(go_at_call 128;refine(rf _ _ (by omega) (by omega)).mono ?_;rintro e w' ⟨rfl,rfl⟩);go_round
        case rel=>exact⟨j+1,s+2^(15-v).toNat,by omega,by omega,by omega,G,by go_num,by go_num⟩
        case measure=>(simp [intOf];try omega)
       ·have G:Hid (s=ahd xs i x (j+1)):=hs.o.trans (Lh e2 (by omega)).symm;have g1:(v==x)=false:=by rw [beq_eq_false_iff_ne];omega
        have g2:¬v <x:=by omega
        clear e2;go_wp2;go_round
        case rel=>exact⟨j+1,s,by omega,by omega,by omega,G,by go_num,rfl⟩
        case measure=>(simp [intOf];try omega)
       ·subst h2;have G:Hid (s+2^(15-v).toNat=ahd xs i v (j+1)):=by simp only [Hid];rw [x0j e2 h h3,hs.o]
        have g3:(j:Int) < (i:Int):=by omega
        clear e2;go_wp2_with(go_at_call 128;refine(rf _ _ (by omega) (by omega)).mono ?_;rintro e w' ⟨rfl,rfl⟩);go_round
        case rel=>exact⟨j+1,s+2^(15-v).toNat,by omega,by omega,by omega,G,by go_num,by go_num⟩
        case measure=>(simp [intOf];try omega)
       ·subst h2;have G:Hid (s=ahd xs i v (j+1)):=hs.o.trans (Lh e2 (by omega)).symm;have g3:(i:Int)≤(j:Int):=by omega
        have g4:¬(j:Int) < (i:Int):=by omega
        clear e2;go_wp2;go_round
        case rel=>exact⟨j+1,s,by omega,by omega,by omega,G,by go_num,rfl⟩
        case measure=>(simp [intOf];try omega)
      ·have h7:j=xs.length:=by omega
       have hp:=I2 (v:=x) hx.1 hx.2;have h9:s=ahd xs i x xs.length:=by rw [←h7];exact hs.o
       have hg:s≤32768*320:=by omega
       rcases(show x=0∨0 <x by omega)with h0|h0
       ·subst h0;have h1:dp xs i 0=0:=rfl;rw [h1]at HX;clear hs h9 h7 h1;go_wp2_with(first|(go_at_call 128;refine(rf _ _ (by omega) (by omega)).mono ?_;rintro e w' ⟨rfl,rfl⟩)|(at_builtin;refine dx rfl rfl Tryz.underlying41 vx rfl (Nat.le_refl 1) h4 rfl hd rfl rfl rfl ?_ ?_ ?_ ?_;simp [Value.oneCell'];(unfold maxLen;omega);omega;intro A3 c3 w3 h6 h8 hf));go_roundw
        case rel=>exact⟨i+1,by omega,by go_num,by rw [HX.o];simpa using h6,h8.below ler hb⟩
        case measure=>(simp [intOf];try omega)
       ·have h5:s=2^(15-x).toNat*dp xs i x:=h9.trans (x0m hi h0 hx.2);have h1:=Wr xs i x;have hq:s.tdiv (2^(15-x).toNat)=dp xs i x:=by rw [h5];exact s0s hp.1 h1
        have ht:dp xs i x≤32768*320:=by refine Int.le_trans ?_ hg;rw [h5];have hm:=Int.mul_le_mul_of_nonneg_right hp.1 h1;rw [Int.one_mul]at hm;exact hm
        clear hs h9 h5 h7;generalize dp xs i x=code at*;generalize hpe:(2:Int)^(15-x).toNat=p at*;have hn:(p==0)=false:=by rw [beq_eq_false_iff_ne];omega
        have hk:¬x=0:=by omega
        have hC:(x==0)=false:=by rw [beq_eq_false_iff_ne];omega
        have hw:p≠0:=by omega
        have hF:wrap64 code=code:=by unfold wrap64;omega
        go_wp2_with(first|(go_at_call 128;refine(rf _ _ (by omega) (by omega)).mono ?_;rintro e w' ⟨rfl,rfl⟩;rw [hpe])|(at_builtin;refine dx rfl rfl Tryz.underlying41 vx rfl (Nat.le_refl 1) h4 rfl hd rfl rfl rfl ?_ ?_ ?_ ?_;simp [Value.oneCell'];(unfold maxLen;omega);omega;intro A3 c3 w3 h6 h8 hf));go_roundw
        case rel=>exact⟨i+1,by omega,by go_num,by rw [HX.o];simpa using h6,h8.below ler hb⟩
        case measure=>(simp [intOf];try omega)
    ·have he:i=xs.length:=by omega
     have F2:Hid (o8 xs=lu xs i):=by simp only [Hid];rw [F.o.2,he]
     have F1:=h_ F.o.1;clear he F;go_wp2;go_ret2;exact⟨AO,i,cO,by rw [F1.o];rfl,by rw [F2.o];exact C9 h4,hb⟩
 ·have F:=h_ (Ae hE);have hz:(gk xs !=0)=true:=bN hE;generalize gz xs=fv at*;generalize gk xs=fe at*;clear hE;go_enter Tryz.func124,Tryz.ntmps124;go_wp2_with(go_at_call 150;refine H.o.mono ?_;rintro e w' ⟨rfl,rfl⟩);go_ret2;exact⟨none,0,0,by rw [F.o.1];rfl,by rw [F.o.2];exact Cg _ _,br⟩
def gx(N:Nat)(f:Nat→Int):Array Value:=((List.range N).map fun i=>Value.int .i64 (f i)).toArray
theorem Cf(N:Nat)(f:Nat→Int):(gx N f).size=N:=by simp [gx]
theorem ox{N:Nat}(f:Nat→Int){i:Nat}(h:i <N):(gx N f)[i]?=some (.int .i64 (f i)):=by simp [gx,h]
theorem vg{N:Nat}{f g:Nat→Int}(h:∀i,i <N→f i=g i):gx N f=gx N g:=by unfold gx;congr 1;apply List.map_congr_left;intro i hi;rw [h i (List.mem_range.1 hi)]
theorem zb{N:Nat}{f g:Nat→Int}{k:Nat}{v:Int}(h:∀i,i <N→g i=if i=k then v else f i):(gx N f).setIfInBounds k (.int .i64 v)=gx N g:=by
 apply Array.ext_getElem?;intro i;by_cases hi:i <N
 ·rw [ox _ hi,Array.getElem?_setIfInBounds,h i hi];by_cases hk:k=i
  ·subst hk;simp [Cf,hi]
  ·rw [if_neg hk,if_neg (fun e=>hk e.symm),ox _ hi]
 ·have h1:=Cf N f;have h2:=Cf N g;rw [Array.getElem?_eq_none (by simp;omega),Array.getElem?_eq_none (by omega)]
theorem Sd(N:Nat):Array.replicate N (Value.int .i64 0)=gx N (fun _=>0):=by
 apply Array.ext_getElem?;intro i;by_cases hi:i <N
 ·rw [ox _ hi];simp [hi]
 ·have h1:=Cf N (fun _=>0);rw [Array.getElem?_eq_none (by simp;omega),Array.getElem?_eq_none (by omega)]
def sk(l:List Int)(i:Nat):Array Value:=gx 17 fun k=>bp k (l.take i)
def ut(l:List Int):Array Value:=gx 17 fun k=>if k=0 then 0 else bp k l
def ly(l:List Int)(k:Nat):Array Value:=gx 17 fun i=>if 1≤i∧i≤k then d7 i l else 0
def py(l:List Int)(i:Nat):Array Value:=gx 17 fun k=>if 1≤k then d7 k l+bp k (l.take i)else 0
def nc(l:List Int)(i:Nat):Array Value:=gx l.length fun k=>if k <i then dp l k (l.getD k 0)else 0
theorem f0r(l:List Int):sk l 0=gx 17 (fun _=>0):=vg fun i _=>by simp [bp]
theorem Pn(l:List Int)(i:Nat){k:Nat}(h:k <17):(sk l i)[k]?=some (.int .i64 (bp k (l.take i))):=ox _ h
theorem f0s{l:List Int}{i X:Nat}(h:l[i]?=some (X:Int)):(sk l i).setIfInBounds X (.int .i64 (bp X (l.take i)+1))=sk l (i+1):=zb fun k _=>by
 rw [qh _ l i _ h];by_cases e:k=X
 ·subst e;simp
 ·rw [if_neg e,if_neg (by omega)];omega
theorem f0p(l:List Int):(sk l l.length).setIfInBounds 0 (.int .i64 0)=ut l:=zb fun k _=>by rw [List.take_length]
theorem f0q(l:List Int){k:Nat}(h0:1≤k)(h:k <17):(ut l)[k]?=some (.int .i64 (bp k l)):=by rw [show(ut l)[k]?=_ from ox _ h,if_neg (by omega)]
theorem f0k(l:List Int):ly l 1=gx 17 (fun _=>0):=vg fun i _=>by
 by_cases e:i=1
 ·subst e;rw [if_pos (by omega)];exact Tc l
 ·rw [if_neg (by omega)]
theorem f0n(l:List Int){k:Nat}(h0:1≤k)(h:k <17):(ly l k)[k]?=some (.int .i64 (d7 k l)):=by rw [show(ly l k)[k]?=_ from ox _ h,if_pos (by omega)]
theorem f0m(l:List Int){k:Nat}(h:k <16):(ly l k)[k+1]?=some (.int .i64 0):=by rw [show(ly l k)[k+1]?=_ from ox _ (by omega),if_neg (by omega)]
theorem f0j(l:List Int){k:Nat}(h:1≤k):(ly l k).setIfInBounds (k+1) (.int .i64 ((d7 k l+bp k l)*2))=ly l (k+1):=zb fun i _=>by
 by_cases e:i=k+1
 ·subst e;rw [if_pos (by omega),if_pos rfl,show((k+1:Nat):Int)=(k:Int)+1 by omega,Tb _ (by omega)];omega
 ·rw [if_neg e];by_cases h1:1≤i∧i≤k
  ·rw [if_pos h1,if_pos (by omega)]
  ·rw [if_neg h1,if_neg (by omega)]
theorem e0z(l:List Int):ly l 16=py l 0:=vg fun i hi=>by
 by_cases h:1≤i
 ·rw [if_pos (by omega),if_pos h];simp [bp]
 ·rw [if_neg (by omega),if_neg h]
theorem f0c(l:List Int)(i:Nat){k:Nat}(h0:1≤k)(h:k <17):(py l i)[k]?=some (.int .i64 (d7 k l+bp k (l.take i))):=by rw [show(py l i)[k]?=_ from ox _ h,if_pos h0]
theorem f0b{l:List Int}{i X:Nat}(h:l[i]?=some (X:Int))(h0:1≤X):(py l i).setIfInBounds X (.int .i64 (d7 X l+bp X (l.take i)+1))=py l (i+1):=zb fun k _=>by
 rw [qh _ l i _ h];by_cases e:k=X
 ·subst e;rw [if_pos h0,if_pos rfl];simp;omega
 ·rw [if_neg e,if_neg (show ¬((X:Int)=(k:Int)) by omega)];simp
theorem f0a{l:List Int}{i:Nat}(h:l[i]?=some 0):py l i=py l (i+1):=vg fun k _=>by
 rw [qh _ l i _ h];by_cases e:1≤k
 ·rw [if_pos e,if_pos e,if_neg (by omega)];simp
 ·rw [if_neg e,if_neg e]
theorem f0d(l:List Int):nc l 0=gx l.length (fun _=>0):=vg fun i _=>by simp
theorem f0h(l:List Int){i:Nat}(h:i <l.length):(nc l i)[i]?=some (.int .i64 0):=by rw [show(nc l i)[i]?=_ from ox _ h,if_neg (Nat.lt_irrefl _)]
theorem f0f{l:List Int}{i X:Nat}(h:l[i]?=some (X:Int))(h0:1≤X):(nc l i).setIfInBounds i (.int .i64 (d7 X l+bp X (l.take i)))=nc l (i+1):=zb fun k _=>by
 by_cases e:k=i
 ·subst e;rw [if_pos (by omega),if_pos rfl,gD,h];unfold dp;simp;omega
 ·rw [if_neg e];by_cases h1:k <i
  ·rw [if_pos h1,if_pos (by omega)]
  ·rw [if_neg h1,if_neg (by omega)]
theorem f0e{l:List Int}{i:Nat}(h:l[i]?=some 0):nc l i=nc l (i+1):=vg fun k _=>by
 by_cases e:k=i
 ·subst e;rw [if_neg (Nat.lt_irrefl _),if_pos (by omega),gD,h];rfl
 ·by_cases h1:k <i
  ·rw [if_pos h1,if_pos (by omega)]
  ·rw [if_neg h1,if_neg (by omega)]
theorem Xm(l:List Int)(n k:Nat)(h:k <n):(lu l n)[k]?=some (dp l k (l.getD k 0)):=by
 induction n with
 |zero=>omega
 |succ n ih=>
  show(lu l n++[dp l n (l.getD n 0)])[k]?=_;by_cases e:k <n
  ·rw [List.getElem?_append_left (by rw [xj];omega)];exact ih e
  ·obtain rfl:k=n:=by omega
   rw [List.getElem?_append_right (by rw [xj];omega),xj];simp
theorem f0g(l:List Int){k:Nat}{u:Int}(h:(lu l l.length)[k]?=some u):(nc l l.length)[k]?=some (.int .i64 u):=by
 have hk:k <l.length:=by have:=(gS.1 h).1;rwa [xj]at this
 rw [Xm l _ k hk]at h;injection h with h;rw [show(nc l l.length)[k]?=_ from ox _ hk,if_pos hk,h]
theorem Ta{l:List Int}(hl:∀x∈l,0≤x∧x≤15)(hf:iz l≤32768){k:Int}(h0:1≤k)(h:k≤15):0≤d7 k l∧0≤bp k l∧d7 k l+bp k l≤32768:=by have h1:=T9 k (by omega) h l hl;have h2:=zk k l;have h3:=(mr k l).1;have h4:=I2 (v:=k) (by omega) h;have h5:=Int.mul_le_mul_of_nonneg_right h4.1 (show 0≤d7 k l+bp k l by omega);rw [Int.one_mul]at h5;exact⟨h2,h3,by omega⟩
theorem n0f{l:List Int}(hl:∀x∈l,0≤x∧x≤15)(hf:iz l≤32768){k:Int}(h0:1≤k)(h:k≤15)(i:Nat):0≤d7 k l+bp k (l.take i)∧d7 k l+bp k (l.take i)≤32768+l.length:=by
 have h1:=Ta hl hf h0 h;have h2:=mr k (l.take i);have h3:(l.take i).length≤l.length:=by simp;omega
 omega
end Go.Proofs.YtcldpfhpkbeaiadGreat
