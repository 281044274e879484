/- A part of the proof of FsMounts. No condition of ours. -/
import Derived.Test.YtcldpfhpkbeaiadGreatFsMounts18
set_option maxRecDepth 20000
set_option maxHeartbeats 1000000
namespace Go.Proofs.YtcldpfhpkbeaiadGreat
open Go.RowKit Go.PlainAid
theorem Cq{m:bc}(h:m.isByte∨m.isCopy):iq m=0:=by unfold iq;rw [if_pos h]
theorem Cr{m:bc}(h:¬(m.isByte∨m.isCopy)):iq m=4:=by unfold iq;rw [if_neg h]
theorem xh(a d b:Int)(w:World):Calls Tryz.prog 112 #[.agg #[.int .i64 a,.int .i64 d,.int .u8 b]] w fun e w'=>e= .returned (.int .i64 (iq ⟨a,d,b⟩))∧w.alloc (.cells #[.int .i64 a,.int .i64 d,.int .u8 b] 194)=w':=by
 by_cases h0:a=0
 ·subst h0;by_cases hd:d=0
  ·subst hd;have F:=h_ (Cq (m:=⟨0,0,b⟩) (.inl ⟨rfl,rfl⟩));go_enter Tryz.func112,Tryz.ntmps112;go_wp2;go_ret;exact⟨ax F.o.symm,rfl⟩
  ·have F:=h_ (Cr (m:=⟨0,d,b⟩) (by rintro(⟨_,h⟩|⟨h,_⟩);exact hd h;simp at h));have h4:(d !=0)=true:=by rw [bne_iff_ne];exact hd
   clear hd;go_enter Tryz.func112,Tryz.ntmps112;go_wp2;go_ret;exact⟨ax F.o.symm,rfl⟩
 ·have h4:(a==0)=false:=bF h0;by_cases hc:3≤a∧a≤66∧1≤d∧b=0
  ·have F:=h_ (Cq (m:=⟨a,d,b⟩) (.inr hc));obtain⟨h1,h2,h3,rfl⟩:=hc;clear h0;go_enter Tryz.func112,Tryz.ntmps112;go_wp2;go_ret;exact⟨ax F.o.symm,rfl⟩
  ·have F:=h_ (Cr (m:=⟨a,d,b⟩) (by rintro(⟨h,_⟩|h);exact h0 h;exact hc h));rcases(show a <3∨(3≤a∧66 <a)∨(3≤a∧a≤66∧d <1)∨(3≤a∧a≤66∧1≤d∧b≠0) by omega)with h|⟨h,h'⟩|⟨h,h',h''⟩|⟨h,h',h'',hb⟩
   ·clear hc h0;go_enter Tryz.func112,Tryz.ntmps112;go_wp2;go_ret;exact⟨ax F.o.symm,rfl⟩
   ·clear hc h0;go_enter Tryz.func112,Tryz.ntmps112;go_wp2;go_ret;exact⟨ax F.o.symm,rfl⟩
   ·clear hc h0;go_enter Tryz.func112,Tryz.ntmps112;go_wp2;go_ret;exact⟨ax F.o.symm,rfl⟩
   ·have h5:(b !=0)=true:=by rw [bne_iff_ne];exact hb
    clear hc h0 hb;go_enter Tryz.func112,Tryz.ntmps112;go_wp2;go_ret;exact⟨ax F.o.symm,rfl⟩
theorem zj(a d b:Int)(w:World):Calls Tryz.prog 130 #[.agg #[.int .i64 a,.int .i64 d,.int .u8 b]] w fun e w'=>e= .returned (.int .i64 (iq ⟨a,d,b⟩))∧w.alloc (.cells #[.int .i64 a,.int .i64 d,.int .u8 b] 194)=w':=by
 by_cases h0:a=0
 ·subst h0;by_cases hd:d=0
  ·subst hd;have F:=h_ (Cq (m:=⟨0,0,b⟩) (.inl ⟨rfl,rfl⟩));go_enter Tryz.func130,Tryz.ntmps130;go_wp2;go_ret;exact⟨ax F.o.symm,rfl⟩
  ·have F:=h_ (Cr (m:=⟨0,d,b⟩) (by rintro(⟨_,h⟩|⟨h,_⟩);exact hd h;simp at h));have h4:(d==0)=false:=bF hd;clear hd;go_enter Tryz.func130,Tryz.ntmps130;go_wp2;go_ret;exact⟨ax F.o.symm,rfl⟩
 ·have h4:(a==0)=false:=bF h0;by_cases hc:3≤a∧a≤66∧1≤d∧b=0
  ·have F:=h_ (Cq (m:=⟨a,d,b⟩) (.inr hc));obtain⟨h1,h2,h3,rfl⟩:=hc;clear h0;go_enter Tryz.func130,Tryz.ntmps130;go_wp2;go_ret;exact⟨ax F.o.symm,rfl⟩
  ·have F:=h_ (Cr (m:=⟨a,d,b⟩) (by rintro(⟨h,_⟩|h);exact h0 h;exact hc h));rcases(show a <3∨(3≤a∧66 <a)∨(3≤a∧a≤66∧d <1)∨(3≤a∧a≤66∧1≤d∧b≠0) by omega)with h|⟨h,h'⟩|⟨h,h',h''⟩|⟨h,h',h'',hb⟩
   ·clear hc h0;go_enter Tryz.func130,Tryz.ntmps130;go_wp2;go_ret;exact⟨ax F.o.symm,rfl⟩
   ·clear hc h0;go_enter Tryz.func130,Tryz.ntmps130;go_wp2;go_ret;exact⟨ax F.o.symm,rfl⟩
   ·clear hc h0;go_enter Tryz.func130,Tryz.ntmps130;go_wp2;go_ret;exact⟨ax F.o.symm,rfl⟩
   ·have h5:(b==0)=false:=bF hb;clear hc h0 hb;go_enter Tryz.func130,Tryz.ntmps130;go_wp2;go_ret;exact⟨ax F.o.symm,rfl⟩
theorem r0w(A:Option Addr)(n c:Nat)(xs:List bc)(w:World)(r:ab w w.heap.size A n c bc.cells 3 xs)(ok:∀z∈xs,bc.ok z)(hn:n≤140737488355328):Calls Tryz.prog 79 #[.slice A n c] w fun e w'=>e= .returned (.tuple #[.string (strOfNums (cr [] xs).1),.int .i64 (cr [] xs).2])∧Below w.heap.size w w':=by
 have hB:=r.len;obtain rfl:=hB;go_enter Tryz.func79,Tryz.ntmps79;go_wp2;go_loopw [4,10] (fun v4 v10 wr=>∃(k:Nat) (O:List Int),k≤xs.length∧O.length≤512∧Hid (cr [] xs=cr O (xs.drop k))∧v10= .int .i64 k∧af wr w.heap.size 1 v4 O.length (O.map (Value.int .u8))∧Below w.heap.size w wr) (fun _ v10 _=>xs.length- (intOf v10).toNat)
 case atStart=>exact⟨0,[],zl,by simp,by simp [Hid],rfl,af.nil _ _ _,br⟩
 case round=>
  obtain⟨k,O,hk,hO,hE,rfl,h0,hb⟩:=hrel;obtain⟨AO,cO,rfl⟩:=h0.form;have h4:=hb.size;by_cases hlt:k <xs.length
  ·obtain⟨b,o,rfl,hP,hc⟩:=(r.below hb).at_ k _ (gE hlt);have hx:xs.drop k=xs[k]::xs.drop (k+1):=List.drop_eq_getElem_cons hlt;have HD:=h_ hx;have hz:=ok xs[k] (List.getElem_mem hlt);clear hx;generalize xs[k]=m at*;obtain⟨a,d,by_⟩:=m;have hm:=hc 0 _ rfl;have hG:=hc 1 _ rfl;have hN:=hc 2 _ rfl;simp only [Nat.add_zero]at hm;obtain⟨wa,wd,wb⟩:=hz;have ha:=Bc wa;have hd:=Bc wd;have hQ:=Mq wb;clear hc wa wd wb;by_cases he:iq ⟨a,d,by_⟩=0
   ·rcases T7 he with⟨rfl,rfl⟩|⟨h1,h2,h3,rfl⟩
    ·have hp:(iq ⟨0,0,by_⟩!=0)=false:=by rw [he];rfl
     by_cases hfull:(O.length:Int)+1≤512
     ·have F:Hid (cr [] xs=cr (O++[by_]) (xs.drop (k+1))):=by simp only [Hid];rw [hE.o,HD.o,Dn he (by simp only;omega) (by rw [vm];simp;omega),vm]
      clear he hO
      go_wp2_with(first
       |(go_at_call 112;refine(xh _ _ _ _).mono ?_;rintro e w' ⟨rfl,rfl⟩)
       |(at_builtin;refine dx rfl rfl Tryz.underlying159 tc rfl (Nat.le_refl 1) ((h0.alloc _).alloc _) rfl ?_ rfl ?_ rfl ?_ ?_ ?_ ?_;(simp;omega);simp;simp [Value.oneCell'];(unfold maxLen;omega);omega;intro A1 c1 w1 hC h9 hI;have hF:w1.cell? ⟨wr.heap.size,0,none⟩=some (.int .i64 0):=h9.cell (by simp) (h0.ne_of_le ler)))
      refine wp_loop_rounds 1 ?_;rw [rounds_succ];go_wp2;go_roundw
      case rel=>exact⟨k+1,O++[by_],by omega,by simp;omega,F,by go_num,by simpa using hC,h9.below ler ((hb.alloc h4 _).alloc (by simp;omega) _)⟩
      case measure=>simp [intOf];omega
     ·have F:Hid (cr [] xs=([],2)):=by simp only [Hid];rw [hE.o,HD.o,Dm he (by simp only;omega) (by rw [vm];simp;omega)]
      clear he;go_wp2_with(go_at_call 112;refine(xh _ _ _ _).mono ?_;rintro e w' ⟨rfl,rfl⟩);go_ret2;exact⟨em (by rw [F.o];rfl) (by rw [F.o]),((hb.alloc h4 _).alloc (by simp;omega) _)⟩
    ·have hp:(iq ⟨a,d,0⟩!=0)=false:=by rw [he];rfl
     by_cases hdist:(O.length:Int) <d
     ·have F:Hid (cr [] xs=([],8)):=by simp only [Hid];rw [hE.o,HD.o,Vk he (by simp only;omega)]
      clear he;go_wp2_with(go_at_call 112;refine(xh _ _ _ _).mono ?_;rintro e w' ⟨rfl,rfl⟩);go_ret2;exact⟨em (by rw [F.o];rfl) (by rw [F.o]),((hb.alloc h4 _).alloc (by simp;omega) _)⟩
     ·by_cases hfull:(O.length:Int)+a≤512
      ·have F:Hid (cr [] xs=cr (O++j9 O d.toNat a.toNat) (xs.drop (k+1))):=by simp only [Hid];rw [hE.o,HD.o,Dn he (by simp only;omega) (by rw [Cj _ _ _ _ (by omega),o7];omega),Cj _ _ _ _ (by omega)]
       have hg:=o7 O d.toNat a.toNat;clear he hO;go_wp2_with(go_at_call 112;refine(xh _ _ _ _).mono ?_;rintro e w' ⟨rfl,rfl⟩);obtain⟨wo,rfl⟩:∃wo:World,wo=wr:=⟨_,rfl⟩;go_loopw [4,41] (fun v4 v41 wi=>∃j:Nat,(j:Int)≤a∧v41= .int .i64 j∧af wi w.heap.size 1 v4 (O.length+j) ((O++j9 O d.toNat j).map (Value.int .u8))∧v4.ownBlock≠some wo.heap.size∧wo.heap.size <wi.heap.size∧wi.cell? ⟨wo.heap.size,1,none⟩=some (.int .i64 d)∧Below w.heap.size w wi) (fun _ v41 _=>(a-intOf v41).toNat)
       case atStart=>exact⟨0,by omega,rfl,by simpa [j9]using(h0.alloc _).alloc _,h0.ne_of_le ler,by simp;omega,by simp,(hb.alloc h4 _).alloc (by simp;omega) _⟩
       case round=>
        obtain⟨j,hj,rfl,h5,hf,hH,hA,h6⟩:=hrel;obtain⟨AI,cI,rfl⟩:=h5.form;by_cases hja:(j:Int) <a
        ·obtain⟨g,hL,hy,hv,hJ,hM,hw,ht⟩:=h5.at_ (j:=O.length+j-d.toNat) (u:=.int .u8 (O.getD (O.length-d.toNat+j%d.toNat) 0)) (by
 rw [List.getElem?_map,t0t O d.toNat j (by omega) (by omega)];rfl)
         injection hv with hv1 hv2 hv3;subst hv1;have h8:O.length+j-d.toNat=((O.length:Int)+(j:Int)-d).toNat:=by omega
         rw [h8]at hw;have hs:cI=hy:=hv3;generalize hbv:O.getD (O.length-d.toNat+j%d.toNat) 0=bv at*;have hr:=h_ hbv;have hh:=h6.size;clear hbv h8 ht hs hv2 hv3;go_wp2_with(at_builtin;refine dx rfl rfl Tryz.underlying159 tc rfl (Nat.le_refl 1) h5 rfl hh rfl rfl rfl ?_ ?_ ?_ ?_;simp [Value.oneCell'];(unfold maxLen;omega);omega;intro A2 c2 w2 hq h7 hD);go_roundw
         case rel=>
          refine⟨j+1,by omega,by go_num,?_,?_,?_,h7.cell hA hf,h7.below ler h6⟩
          ·rw [Wp,hr.o,show O.length+(j+1)=O.length+j+1 from rfl];simpa using hq
          ·rcases hD with e|e
           ·rw [e];exact hf
           ·intro h;have:=e _ h;omega
          ·have:=h7.size;omega
         case measure=>simp [intOf];omega
        ·have hu:j=a.toNat:=by omega
         subst hu;go_wp2;go_roundw
         case rel=>exact⟨k+1,O++j9 O d.toNat a.toNat,by omega,by simp [hg];omega,F,by go_num,by simpa [hg]using h5,h6⟩
         case measure=>simp [intOf];omega
      ·have F:Hid (cr [] xs=([],2)):=by simp only [Hid];rw [hE.o,HD.o,Dm he (by simp only;omega) (by rw [Cj _ _ _ _ (by omega),o7];omega)]
       clear he;go_wp2_with(go_at_call 112;refine(xh _ _ _ _).mono ?_;rintro e w' ⟨rfl,rfl⟩);go_ret2;exact⟨em (by rw [F.o];rfl) (by rw [F.o]),((hb.alloc h4 _).alloc (by simp;omega) _)⟩
   ·have hK:(iq ⟨a,d,by_⟩!=0)=true:=by rw [bne_iff_ne];exact he
    have F:Hid (cr [] xs=([],iq ⟨a,d,by_⟩)):=by simp only [Hid];rw [hE.o,HD.o,cr,if_pos he]
    clear he;go_wp2_with(go_at_call 112;refine(xh _ _ _ _).mono ?_;rintro e w' ⟨rfl,rfl⟩);go_ret2;exact⟨em (by rw [F.o];rfl) (by rw [F.o]),((hb.alloc h4 _).alloc (by simp;omega) _)⟩
  ·have F:Hid (cr [] xs=(O,0)):=by simp only [Hid];rw [hE.o,List.drop_of_length_le (by omega),cr]
   go_wp2_with(refine M9 rfl rfl Tryz.underlying159 Tryz.underlying5 Tryz.underlying9 h0 rfl ?_);go_ret2;exact⟨em (by rw [F.o]) (by rw [F.o]),hb⟩
def mw(l:List Int)(CS:Array Value)(w:World):Prop:=∃A c,CS=dy (.slice A (sgL l 16).length c) (bkF l 16) (bkG l 16) (bkC l)∧ab w w.heap.size A (sgL l 16).length c (fun z=>[.int .i64 z]) 1 (sgL l 16)
theorem mw.size{l:List Int}{CS:Array Value}{w:World}(h:mw l CS w):CS.size=49:=by obtain⟨A,c,rfl,_⟩:=h;rfl
theorem mw.one{l:List Int}{CS:Array Value}{w:World}(h:mw l CS w):CS.all (·.oneCell')=true:=by obtain⟨A,c,rfl,_⟩:=h;exact xm _ _ _ _ A _ c rfl
theorem mw.below{l:List Int}{CS:Array Value}{w w':World}(h:mw l CS w)(hb:Below w.heap.size w w'):mw l CS w':=by obtain⟨A,c,e,r⟩:=h;exact⟨A,c,e,(r.below hb).more hb.size⟩
theorem mw.past{l:List Int}{CS:Array Value}{w w':World}{M:Nat}{s:ByteArray}{b:Bool}{t:TypeId}(h:mw l CS w)(hr:w.heap[M]?=some (.cells #[.string s,.bool b] t (0,0)))(hg:w.grownBy w' (some M)):mw l CS w':=by obtain⟨A,c,e,r⟩:=h;exact⟨A,c,e,(U6 r hr ler hg).more hg.size⟩
def Ev(s:ByteArray)(B:Nat)(W:World)(e:Ending)(w':World):Prop:=∃CS,e= .returned (.agg CS)∧mw (rrX s) CS w'∧W.grownBy w' (some B)∧w'.heap[B]?=some (.cells #[.string (aw s (ct s).toNat),.bool false] 151 (0,0))
theorem Gq(s:ByteArray)(B want:Nat)(W:World)(row:W.heap[B]?=some (.cells #[.string s,.bool false] 151 (0,0)))(hs:s.size≤1048575)(h:fm s want)(hw:want≤320):Calls Tryz.prog 109 #[.pointer (some ⟨B,0,none⟩),.int .i64 want] W (Ev s B W):=
 (g0h s B want W row hs h hw).mono (by rintro e w' ⟨A,c,h1,h2,h3,h4⟩;exact⟨_,h1,⟨A,c,rfl,h2⟩,h3,h4⟩)
section
variable {w:World} {ops:Array Oper} {rest:List Oper} {o:Oper} {a:Act} {Q:Exit→Act→World→Prop}
theorem xz(hgd:o.guard=none)(x y:Operand)(ho:o.op= .store 189 x y)(hd:o.dst=none)(w1:World)(CS:Array Value)(hx:a.eval x= .pointer (some ⟨w1.heap.size,0,none⟩))(hy:a.eval y= .agg CS)(hsz:CS.size=49)(hone:CS.all (·.oneCell')=true)(h:∀w2,w2.heap[w1.heap.size]?=some (.cells CS 189 (0,0))→Below w1.heap.size w1 w2→w1.heap.size <w2.heap.size→wpList Tryz.prog ops Q rest a w2):wpList Tryz.prog ops Q (o::rest) a (w1.alloc (.cells df 189)):=by have h0:=A_ w1 (.cells df 189);refine wpList_store_rowTo hgd _ x y ho hd w1.heap.size CS hx hy 189 df h0 (by rw [hsz];exact zq) (by rw [hsz];rfl) hone ?_;exact h _ (bh h0) (below_setRow (br.alloc ler _) ler _) (by simp [World.setRow])
end
theorem Yf{l:List Int}{CS:Array Value}{V:World}{M:Nat}(s:ByteArray)(a:Nat)(hb:mw l CS V)(row:V.heap[M]?=some (.cells CS 189 (0,0)))(hcan:dt l=0)(hl:l.length≤320)(ha:a≤8*s.size)(hs:s.size≤1048575):Calls Tryz.prog 110 #[.pointer (some ⟨M,0,none⟩),.string s,.int .i64 a] V fun e w'=>∃q:Nat,e= .returned (.tuple #[.int .i64 (one l s a).1,.int .i64 (one l s a).2.1,.int .i64 (one l s a).2.2])∧w'=V.drewN q:=by obtain⟨A,c,rfl,r⟩:=hb;exact k0c l s a A c M V row r hcan hl ha hs
def qw(s:ByteArray)(m:Nat)(B:Nat)(W:World)(e:Ending)(w':World):Prop:=∃(A:Option Addr) (n c:Nat) (s':ByteArray) (b:Bool) (L:List bc),e= .returned (.slice A n c)∧w'.heap[B]?=some (.cells #[.string s',.bool b] 151 (0,0))∧ab w' w'.heap.size A n c bc.cells 3 L∧W.grownBy w' (some B)∧(∀z∈L,bc.ok z)∧L.length≤512∧((b=true∧gy s m=none)∨(b=false∧gy s m=some L))
theorem Sh(w:World):ab w w.heap.size none 0 0 bc.cells 3 ([]:List bc):=⟨rfl,Nat.le_refl _,zl,fun i x h=>by simp at h⟩
theorem Iq{s s':ByteArray}{m B:Nat}{W w':World}(h:gy s m=none)(hr:w'.heap[B]?=some (.cells #[.string s',.bool true] 151 (0,0)))(hg:W.grownBy w' (some B)):qw s m B W (.returned (.slice none 0 0)) w':=
 ⟨none,0,0,s',true,[],rfl,hr,Sh _,hg,fun z hz=>by simp at hz,by simp,.inl ⟨rfl,h⟩⟩
theorem wg{W w1 w2:World}{B:Nat}(h:W.grownBy w1 (some B))(hb:Below w1.heap.size w1 w2):W.grownBy w2 (some B):=we h (p0z hb)
theorem g0a(s:ByteArray)(B m:Nat)(W:World)(row:W.heap[B]?=some (.cells #[.string s,.bool false] 151 (0,0)))(hs:s.size≤1048575)(h:¬fm s 320):Calls Tryz.prog 78 #[.pointer (some ⟨B,0,none⟩),.int .i64 m] W (qw s m B W):=by
 have HL:=h_ (Py s B 320 W row hs h);have HM:=h_ (fun(s':ByteArray) (w':World) h1 h2=>Iq (s':=s') (B:=B) (W:=W) (w':=w') (T6 (m:=m) h) h1 h2);have h6:=ag row;have h5:Hid (df.all (·.oneCell')=true):=xm _ _ _ _ none 0 0 rfl;generalize qw s m B W=PP at*;clear row h;go_enter Tryz.func78,Tryz.ntmps78
 go_wp2_with(first
  |(refine xz rfl _ _ rfl rfl w1 df rfl rfl rfl h5.o ?_;intro w2 ra h4 h7;have h3:=ah h0.o (ag h0.o) h4;have HP:=h_ (HM.o _ w2 h3 (wg g1.o h4));have k1:=rc1 h3;clear ra h4 h3)
  |(go_at_call 109;refine HL.o.mono ?_;rintro e w1 ⟨rfl,g1,h0⟩;replace g1:=h_ g1;replace h0:=h_ h0))
 exact HP.o
theorem f0z(s s2:ByteArray)(B m:Nat)(W:World)(row:W.heap[B]?=some (.cells #[.string s,.bool false] 151 (0,0)))(hs:s.size≤1048575)(h:fm s 320)(e2:s2=aw s (ct s).toNat)(hs2:s2.size≤1048575)(h2:¬fm s2 9):Calls Tryz.prog 78 #[.pointer (some ⟨B,0,none⟩),.int .i64 m] W (qw s m B W):=by
 have HL:=h_ (Gq s B 320 W row hs h (by omega));have ha:Hid (∀V:World,V.heap[B]?=some (.cells #[.string s2,.bool false] 151 (0,0))→Calls Tryz.prog 109 #[.pointer (some ⟨B,0,none⟩),.int .i64 9] V fun e w'=>e= .returned (.agg df)∧V.grownBy w' (some B)∧w'.heap[B]?=some (.cells #[.string s2,.bool true] 151 (0,0))):=fun V r=>Py s2 B 9 V r hs2 h2
 have HM:=h_ (fun(s':ByteArray) (w':World) h1 h3=>Iq (s':=s') (B:=B) (W:=W) (w':=w') (T5 (m:=m) h e2 h2) h1 h3);have he:=ag row;have hc:Hid (df.all (·.oneCell')=true):=xm _ _ _ _ none 0 0 rfl;unfold Ev at HL;rw [←e2]at HL;generalize qw s m B W=PP at*;generalize rrX s=X at*;clear row h h2 e2;go_enter Tryz.func78,Tryz.ntmps78
 go_wp2_with(first
  |(refine xz rfl _ _ rfl rfl w3 df rfl rfl rfl hc.o ?_;intro w4 rd h7 hf;have h8:=ah h5.o (ag h5.o) h7;have HP:=h_ (HM.o _ w4 h8 (wg g3.o h7));have k4:=rc1 h8;clear rd h7 h8)
  |(go_at_call 109;refine(ha.o w2 h9.o).mono ?_;rintro e w3 ⟨rfl,g3,h5⟩;replace g3:=h_ (we g2.o g3);replace h5:=h_ h5)
  |(refine xz rfl _ _ rfl rfl w1 hd rfl rfl h0.o.size h0.o.one ?_;intro w2 ra h6 hg;have h9:=h_ (ah h4.o (ag h4.o) h6);have g2:=h_ (wg g1.o h6);have k2:=rc1 h9.o;clear ra h6)
  |(go_at_call 109;refine HL.o.mono ?_;rintro e w1 ⟨hd,rfl,h0,g1,h4⟩;replace g1:=h_ g1;replace h4:=h_ h4;replace h0:=h_ h0))
 exact HP.o
end Go.Proofs.YtcldpfhpkbeaiadGreat
