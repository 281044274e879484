/- A part of the proof of FsMounts. No condition of ours. -/
import Derived.Test.YtcldpfhpkbeaiadGreatFsMounts35
import Derived.Test.YtcldpfhpkbeaiadGreatFsMounts45
set_option maxRecDepth 100000
set_option maxHeartbeats 8000000
namespace Go.Proofs.YtcldpfhpkbeaiadGreat
open Go.RowKit Go.PlainAid
structure LiD(B:LiB)(cs:List ByteArray)(xs:List aa)(gs:List Int)(cA:Option Addr)(cn cc:Nat)(wA:Option Addr)(wc:Nat)(Am:Option Addr)(cm:Nat)(Ag:Option Addr)(cg:Nat)(W:World):Prop where
 db:W.heap[B.db]?=some (.cells #[.slice cA cn cc,.slice wA 0 wc] 25 (0,0))
 mb:W.heap[B.mb]?=some (.cells #[.slice Am 48 cm,.slice Ag 48 cg] 43 (0,0))
 rc:ab W W.heap.size cA cn cc (fun z=>[.string z]) 1 cs
 rw':ab W W.heap.size wA 0 wc ae.cells 2 []
 rm:ab W W.heap.size Am 48 cm aa.cells 2 xs
 rg:ab W W.heap.size Ag 48 cg (fun z=>[.int .i64 z]) 1 gs
theorem LiD.at_{B:LiB}{cs:List ByteArray}{xs:List aa}{gs:List Int}{cA:Option Addr}{cn cc:Nat}{wA:Option Addr}{wc:Nat}{Am:Option Addr}{cm:Nat}{Ag:Option Addr}{cg:Nat}{w0 W:World}(h:LiD B cs xs gs cA cn cc wA wc Am cm Ag cg w0)(hb:Below w0.heap.size w0 W):LiD B cs xs gs cA cn cc wA wc Am cm Ag cg W:=
 {db:=ah h.db (ag h.db) hb,mb:=ah h.mb (ag h.mb) hb,rc:=(h.rc.below hb).more hb.size,rw':=(h.rw'.below hb).more hb.size,rm:=(h.rm.below hb).more hb.size,rg:=(h.rg.below hb).more hb.size}
theorem Ok{s:Nat}{seen:List Nat}(h:mt s seen)(n:Nat):(n∈seen→(bits .and .i64 ((s:Int)/2^n) 1==1)=true)∧(n∉seen→(bits .and .i64 ((s:Int)/2^n) 1==1)=false):=by
 have e:bits .and .i64 ((s:Int)/2^n) 1=((s/2^n%2:Nat):Int):=by rw [Ld,show((2:Int)^n)=((2^n:Nat):Int) by simp];omega
 rw [e,h.div n];exact⟨fun h=>by rw [if_pos h];rfl,fun h=>by rw [if_neg h];rfl⟩
theorem j0q(a b:Nat)(ha:a <2^48)(hb:b <2^48):bits .or .i64 (a:Int) (b:Int)=((a|||b:Nat):Int):=by
 have h1:a|||b <2^48:=Nat.or_lt_two_pow ha hb
 have e1:(BitVec.ofInt 64 (a:Int))=BitVec.ofNat 64 a:=rfl;have e2:(BitVec.ofInt 64 (b:Int))=BitVec.ofNat 64 b:=rfl
 have h2:(BitVec.ofNat 64 a|||BitVec.ofNat 64 b).toNat=a|||b:=by rw [BitVec.toNat_or,BitVec.toNat_ofNat,BitVec.toNat_ofNat,Nat.mod_eq_of_lt (by omega),Nat.mod_eq_of_lt (by omega)]
 show IntKind.i64.wrap (((BitVec.ofInt 64 (a:Int))|||(BitVec.ofInt 64 (b:Int))).toNat:Int)=_;rw [e1,e2,h2,IntKind.wrap_i64];omega
theorem x0g{f:FuncId}{args:Array Value}{W:World}{cs:List ByteArray}{ws:List ae}{k:Nat}{p:aa}{g:Int}(h:Calls Tryz.prog f args W (xy cs ws k p g W))(hok:fw cs ws k p g):Calls Tryz.prog f args W fun e w'=>∃(G:Int) (D:Option Addr) (q d:Nat),e= .returned (.tuple #[.agg #[.int .i64 (ndK cs ws p),.int .i64 G,.int .i64 (ndS cs ws p),.slice D q d],.bool true])∧ab w' w'.heap.size D q d aa.cells 2 (pts cs ws p)∧Below W.heap.size W w'∧(∀a,D=some a→W.heap.size≤a.block):=
 h.mono fun _ _ h=>by
  rcases h with⟨_,D,q,d,h1,h2⟩|⟨h,_⟩
  ·exact⟨_,D,q,d,h1,h2⟩
  ·exact absurd hok h
theorem t0q{ok:Prop}{sz:Int}{L:List ByteArray}{W:World}{f:FuncId}{args:Array Value}(h:Calls Tryz.prog f args W (Ez ok sz L W))(hok:ok):Calls Tryz.prog f args W fun e w'=>∃A m c,e= .returned (.tuple #[.agg #[.int .i64 sz,.slice A m c],.bool true])∧ab w' w'.heap.size A m c (fun z=>[.string z]) 1 L∧Below W.heap.size W w'∧(∀a,A=some a→W.heap.size≤a.block):=
 h.mono fun _ _ ⟨⟨S,A,m,c,b⟩,h1,h2,h3,hn,h4⟩=>by
  simp only at h1 h2 h3 h4;rcases h4 with⟨_,h4,h5⟩|⟨h4,_⟩
  ·subst h4;rw [h2.1 hok]at h1;exact⟨A,m,c,h1,h5,h3,hn⟩
  ·exact absurd hok h4
theorem t0r{ok:Prop}{sz:Int}{L:List ByteArray}{W:World}{f:FuncId}{args:Array Value}(h:Calls Tryz.prog f args W (Ez ok sz L W))(hok:¬ok):Calls Tryz.prog f args W fun e w'=>e= .returned (.tuple #[.agg #[.int .i64 0,.slice none 0 0],.bool false])∧Below W.heap.size W w':=
 h.mono fun _ _ ⟨⟨S,A,m,c,b⟩,h1,h2,h3,_,h4⟩=>by
  simp only at h1 h2 h3 h4;rcases h4 with⟨h4,_⟩|⟨_,e1,e2,e3,e4⟩
  ·exact absurd h4 hok
  ·subst e1;subst e2;subst e3;subst e4
   have:b=false:=by cases b with
    |false=>rfl
    |true=>exact absurd (h2.2 rfl) hok
   subst this;exact⟨h1,h3⟩
theorem Iw: (⟨#[]⟩:ByteArray).toList.isEmpty=true:=by unfold ByteArray.toList;unfold ByteArray.toList.loop;rfl
theorem Tj{B:LiB}{tv ts tO:TypeId}{w0 W w:World}{items:List be}{A:Option Addr}{f:FuncId}{args:Array Value}{r:Option (List Nat×List be)}(h:Calls Tryz.prog f args w (pm B tv ts tO w0 W items A r))(hr:r=none):Calls Tryz.prog f args w fun e w'=>e= .returned (.bool false)∧Below B.lo w0 w':=
 h.mono fun _ _ h=>by
  rcases h with⟨_,h⟩|⟨s,l,A',c',h,_⟩
  ·exact h
  ·rw [hr]at h;cases h
theorem Ix{B:LiB}{tv ts tO:TypeId}{w0 W w:World}{items:List be}{A:Option Addr}{f:FuncId}{args:Array Value}{r:Option (List Nat×List be)}{s:List Nat}{l:List be}(h:Calls Tryz.prog f args w (pm B tv ts tO w0 W items A r))(hr:r=some (s,l)):Calls Tryz.prog f args w fun e w'=>e= .returned (.bool true)∧∃A' c',LiS B tv ts tO w0 s (items++l) A' c' w'∧FrL B.sb B.ob A W A' w':=
 h.mono fun _ _ h=>by
  rcases h with⟨h,_⟩|⟨s',l',A',c',h,h1,h2⟩
  ·rw [hr]at h;cases h
  ·rw [hr]at h;injection h with h;injection h with h3 h4;subst h3;subst h4;exact⟨h1,A',c',h2⟩
structure LjR(B:LiB)(tv ts tO:TypeId)(w0:World)(seen:List Nat)(items:List be)(A:Option Addr)(c:Nat)(W:World)(ib fb xb:Nat)(K G:Int)(k:Nat)(D:Option Addr)(q d:Nat)(Ax:Option Addr)(m cx:Nat)(P:ByteArray)(Ls:List ByteArray)(W7:World):Prop where
 s:LiS B tv ts tO w0 seen items A c W7
 f:FrL B.sb B.ob A W A W7
 i:W7.heap[ib]?=some (.cells #[.int .i64 K,.int .i64 G,.int .i64 k,.slice D q d] 67 (0,0))
 d:W7.heap[fb]?=some (.cells #[.int .i64 k,.slice Ax m cx] 69 (0,0))
 x:W7.heap[xb]?=some (.cells #[.string P,.int .i64 K,.string ⟨#[]⟩] 35 (0,0))
 r:ab W7 W7.heap.size Ax m cx (fun z=>[.string z]) 1 Ls
 rn:∀a,Ax=some a→W.heap.size≤a.block
 fx:fb≠xb
 xi:xb≠ib
 nx:W.heap.size≤xb
 nf:W.heap.size≤fb
 ow:∀a,A=some a→a.block <W.heap.size
 ob:B.ob <W.heap.size
 sb:B.sb <W.heap.size
 vb:B.vb <W.heap.size
 rx:da Ax m xb
section
variable {B:LiB} {tv ts tO:TypeId} {w0:World} {seen:List Nat} {items:List be} {A:Option Addr} {c:Nat} {W:World} {ib fb xb:Nat} {K G:Int} {k:Nat} {D:Option Addr} {q d:Nat} {Ax:Option Addr} {m cx:Nat} {P P1:ByteArray} {Ls:List ByteArray} {W7 W8:World}
theorem LjR.go(h:LjR B tv ts tO w0 seen items A c W ib fb xb K G k D q d Ax m cx P Ls W7)(hb:Below W7.heap.size W7 W8):LjR B tv ts tO w0 seen items A c W ib fb xb K G k D q d Ax m cx P Ls W8:=
 {h with s:=h.s.go hb,f:=h.f.trans (FrL.of_below hb),i:=ah h.i (ag h.i) hb,d:=ah h.d (ag h.d) hb,x:=ah h.x (ag h.x) hb,r:=(h.r.below hb).more hb.size}
theorem LjR.sets(h:LjR B tv ts tO w0 seen items A c W ib fb xb K G k D q d Ax m cx P Ls W7)(j:Nat)(u:Value):LiS B tv ts tO w0 seen items A c (W7.setCell ⟨xb,j,none⟩ u)∧FrL B.sb B.ob A W A (W7.setCell ⟨xb,j,none⟩ u):=by
 have hx:=h.nx;obtain⟨s,h1,h2⟩:=h.s.sbox;have h0:B.lo≤xb:=by have h3:=h.s.it.lo;have h4:=h.ob;omega
 have h5:=h.ob;have h6:=h.sb;have h7:=h.vb;refine⟨{h.s with it:= {below:=h.s.it.below.setCell (p:=⟨xb,j,none⟩) h0 _,obox:=cp h.s.it.obox (by show B.ob≠xb;omega),own:=h.s.it.own.setOther (p:=⟨xb,j,none⟩) (fun e=>?_) _,lo:=h.s.it.lo},sbox:=⟨s,cp h1 (by show B.sb≠xb;omega),h2⟩,vbox:=cp h.s.vbox (by show B.vb≠xb;omega)},⟨by have:=h.f.size;simp [World.setCell];omega,fun k hk h1 h2 h3=>(Below.heap_setCell _ _ _ _ (by show k≠xb;omega)).trans (h.f.block k hk h1 h2 h3),.inl rfl⟩⟩;cases hA:A with
 |none=>rw [hA]at e;cases e
 |some a=>rw [hA]at e;injection e with e;have:=h.ow a hA;simp only at e;omega
theorem LjR.slash(h:LjR B tv ts tO w0 seen items A c W ib fb xb K G k D q d Ax m cx P Ls W7):LjR B tv ts tO w0 seen items A c W ib fb xb K G k D q d Ax m cx P1 Ls (W7.setCell ⟨xb,0,none⟩ (.string P1)):=by obtain⟨h1,h2⟩:=h.sets 0 (.string P1);exact {h with s:=h1,f:=h2,i:=cp h.i (fun e=>h.xi e.symm),d:=cp h.d h.fx,x:=b9 (j:=0) h.x,r:=(h.r.far_set h.rx 0 _).more (by simp [World.setCell])}
theorem LjR.text(h:LjR B tv ts tO w0 seen items A c W ib fb xb K G k D q d Ax m cx P Ls W7)(T:ByteArray):LiS B tv ts tO w0 seen items A c (W7.setCell ⟨xb,2,none⟩ (.string T)):=(h.sets 2 _).1
theorem LjR.ftext(h:LjR B tv ts tO w0 seen items A c W ib fb xb K G k D q d Ax m cx P Ls W7)(T:ByteArray):FrL B.sb B.ob A W A (W7.setCell ⟨xb,2,none⟩ (.string T)):=(h.sets 2 _).2
theorem LjR.own_fb(h:LjR B tv ts tO w0 seen items A c W ib fb xb K G k D q d Ax m cx P Ls W7):Value.ownBlock (.slice A items.length c)≠some fb:=fun e=>by
 cases hA:A with
 |none=>rw [hA]at e;cases e
 |some a=>rw [hA]at e;injection e with e;have:=h.ow a hA;have:=h.nf;omega
theorem LjR.fb_ob(h:LjR B tv ts tO w0 seen items A c W ib fb xb K G k D q d Ax m cx P Ls W7):fb≠B.ob:=by have:=h.ob;have:=h.nf;omega
theorem LjR.rows_add{w9:World}{base:Nat}(h:LjR B tv ts tO w0 seen items A c W ib fb xb K G k D q d Ax m cx P Ls W7)(hl:ed W7 w9 base (Value.ownBlock (.slice A items.length c)))(u:Value):ab (w9.setCell ⟨B.ob,0,none⟩ u) (w9.setCell ⟨B.ob,0,none⟩ u).heap.size Ax m cx (fun z=>[.string z]) 1 Ls:=by
 have h1:ab w9 W7.heap.size Ax m cx (fun z=>[.string z]) 1 Ls:=h.r.far_keep fun g ⟨o,e,_⟩ hg=>hl.grown.block g hg (fun e2=>by
 have h2:=h.rn _ e
 cases hA:A with
 |none=>rw [hA]at e2;cases e2
 |some a=>rw [hA]at e2;injection e2 with e2;have:=h.ow a hA;simp only at h2;omega)
 exact(h1.far_set (fun a ha _ e=>by have h2:=h.rn a ha;have:=h.ob;omega) 0 u).more (by have:=hl.size;simp [World.setCell];omega)
theorem Iv{w4 w5:World}{path:List UInt8}(hW:LiS B tv ts tO w0 seen items A c (w4.alloc (.cells #[.int .i64 K,.int .i64 G,.int .i64 k,.slice D q d] 67)))(hF:FrL B.sb B.ob A W A (w4.alloc (.cells #[.int .i64 K,.int .i64 G,.int .i64 k,.slice D q d] 67)))(hI:(w4.alloc (.cells #[.int .i64 K,.int .i64 G,.int .i64 k,.slice D q d] 67)).heap[w4.heap.size]?=some (.cells #[.int .i64 K,.int .i64 G,.int .i64 k,.slice D q d] 67 (0,0)))(hb:Below (w4.alloc (.cells #[.int .i64 K,.int .i64 G,.int .i64 k,.slice D q d] 67)).heap.size (w4.alloc (.cells #[.int .i64 K,.int .i64 G,.int .i64 k,.slice D q d] 67)) w5)(hr:ab w5 w5.heap.size Ax m cx (fun z=>[.string z]) 1 Ls)(hn:∀a,Ax=some a→(w4.alloc (.cells #[.int .i64 K,.int .i64 G,.int .i64 k,.slice D q d] 67)).heap.size≤a.block)(ho:B.ob <W.heap.size∧B.sb <W.heap.size∧B.vb <W.heap.size∧(∀a,A=some a→a.block <W.heap.size)):LjR B tv ts tO w0 seen items A c W w4.heap.size w5.heap.size (w5.heap.size+1) K G k D q d Ax m cx (mkS path) Ls ((w5.alloc (.cells #[.int .i64 k,.slice Ax m cx] 69)).alloc (.cells #[.string (mkS path),.int .i64 K,.string ⟨#[]⟩] 35)):=by have h1:=hF.size;have h2:=hb.size;have h3:(w4.alloc (.cells #[.int .i64 K,.int .i64 G,.int .i64 k,.slice D q d] 67)).heap.size=w4.heap.size+1:=World.size_alloc _ _;have h0:Below w5.heap.size w5 ((w5.alloc (.cells #[.int .i64 k,.slice Ax m cx] 69)).alloc (.cells #[.string (mkS path),.int .i64 K,.string ⟨#[]⟩] 35)):=(br.alloc ler _).alloc (by simp) _;have h4:=hb.trans (h0.mono h2);exact {s:=hW.go h4,f:=hF.trans (FrL.of_below h4),i:=ah hI (ag hI) h4,d:=cq (A_ w5 _) _,x:=pd w5 _ _,r:=(hr.below h0).more h0.size,rn:=fun a ha=>by have:=hn a ha;omega,fx:=by omega,xi:=by omega,nx:=by omega,nf:=by omega,ow:=ho.2.2.2,ob:=ho.1,sb:=ho.2.1,vb:=ho.2.2.1,rx:=da.of_rows hr (by omega)}
end
theorem n0k(B:LiB)(tv ts tO:TypeId)(cs:List ByteArray)(xs:List aa)(gs:List Int)(cA:Option Addr)(cn cc:Nat)(wA:Option Addr)(wc:Nat)(Am:Option Addr)(cm:Nat)(Ag:Option Addr)(cg:Nat)(w0:World)(hD:LiD B cs xs gs cA cn cc wA wc Am cm Ag cg w0)(hlo:B.lo=w0.heap.size)(hd:au cs []=0)(hok:jw xs gs)(hal:ix cs [] xs gs 48)(f:Nat):∀(hz:Nat),hz+f=9→∀(seen:List Nat) (n:Nat) (path:List UInt8) (W:World) (h7:List be) (A:Option Addr) (c:Nat),n <48→LiS B tv ts tO w0 seen h7 A c W→seen.Nodup→(∀k∈seen,k <48)→h7.length≤seen.length→path.length+13*f≤1000→Calls Tryz.prog 39 #[.int .i64 n,.string (mkS path),.int .i64 hz,.pointer (some ⟨B.mb,0,none⟩),.pointer (some ⟨B.sb,0,none⟩),.pointer (some ⟨B.db,0,none⟩),.pointer (some ⟨B.ob,0,none⟩),.pointer (some ⟨B.vb,0,none⟩)] W (pm B tv ts tO w0 W h7 A (vis cs [] xs gs f seen n path)):=by
 induction f with
 |zero=>
  intro hz xY seen n path W h7 A c hn hS _ _ _ _;obtain⟨p,g,hp,h9,hm,_⟩:=hok.2.2 n hn;obtain⟨pc,pn⟩:=p;have hh:=hD.at_ (hlo▸hS.it.below);obtain⟨bm,om,rfl,_,hg⟩:=hh.rm.at_ n _ hp;have e0:W.cell? ⟨bm,om+n*2,none⟩=some (.int .i64 pc):=by simpa using hg 0 _ rfl
  have e1:W.cell? ⟨bm,om+n*2+1,none⟩=some (.int .i64 pn):=hg 1 _ rfl;have c0:=rc0 hh.mb;have y7:(n:Int) <48:=by omega
  have HZ:pm B tv ts tO w0 W h7 A (vis cs [] xs gs 0 seen n path) (.returned (.bool false)) W:=.inl ⟨uc,rfl,hS.it.below⟩;have xS:(8:Int) < (hz:Int):=by omega
  have HZ:=h_ HZ;generalize pm B tv ts tO w0 W h7 A (vis cs [] xs gs 0 seen n path)=PP at*;by_cases h0:pc=0
  ·have x5:pn=0:=by
    have h:dz pc pn:=by simpa [dk]using hm
    unfold dz at h;omega
   subst h0;subst x5;clear hd hok hal hD hh hp h9 hm hg hS;go_enter Tryz.func39,Tryz.ntmps39;go_wp2
   first|exact HZ.o|(go_ret;exact HZ.o)
  ·have g0:(pc==0)=false:=bF h0;clear hd hok hal hD hh hp h9 hm hg hS h0;go_enter Tryz.func39,Tryz.ntmps39;go_wp2
   first|exact HZ.o|(go_ret;exact HZ.o)
 |succ f ih=>
  intro hz xY seen n path W h7 A c hn hS hM hy g1 gB;obtain⟨p,g,hp,h9,hm,_⟩:=hok.2.2 n hn;obtain⟨pc,pn⟩:=p;have hh:=hD.at_ (hlo▸hS.it.below);obtain⟨bm,om,hw,_,hg⟩:=hh.rm.at_ n _ hp;have e0:W.cell? ⟨bm,om+n*2,none⟩=some (.int .i64 pc):=by simpa using hg 0 _ rfl
  have e1:W.cell? ⟨bm,om+n*2+1,none⟩=some (.int .i64 pn):=hg 1 _ rfl;have c0:W.cell? ⟨B.mb,0,none⟩=some (.slice (some ⟨bm,om,none⟩) 48 cm):=by rw [←hw];exact aj hh.mb 0
  have y7:(n:Int) <48:=by omega
  have xS:¬(8:Int) < (hz:Int):=by omega
  have hu:Hid (vis cs [] xs gs (f+1) seen n path=none→∀w',Below B.lo w0 w'→pm B tv ts tO w0 W h7 A (vis cs [] xs gs (f+1) seen n path) (.returned (.bool false)) w'):=h_ fun hr w' h=>.inl ⟨hr,rfl,h⟩
  have hG:Hid (∀s l,vis cs [] xs gs (f+1) seen n path=some (s,l)→∀A' c' w',LiS B tv ts tO w0 s (h7++l) A' c' w'→FrL B.sb B.ob A W A' w'→pm B tv ts tO w0 W h7 A (vis cs [] xs gs (f+1) seen n path) (.returned (.bool true)) w'):=h_ fun s l hr A' c' w' h h2=>.inr ⟨s,l,A',c',hr,rfl,h,h2⟩
  generalize hPP:pm B tv ts tO w0 W h7 A (vis cs [] xs gs (f+1) seen n path)=PP at hu hG⊢;clear hPP;by_cases h0:pc=0
  ·have x5:pn=0:=by
    have h:dz pc pn:=by simpa [dk]using hm
    unfold dz at h;omega
   subst h0;subst x5;have HZ:=h_ (hu.o (sf hp h9 (fun h=>h.1 rfl)) W hS.it.below);clear hd hok hal hD hh hp h9 hm hg hS hM hy g1 gB ih hu hG hw;go_enter Tryz.func39,Tryz.ntmps39;go_wp2
   first|exact HZ.o|(go_ret;exact HZ.o)
  ·have g0:(pc==0)=false:=bF h0;obtain⟨s,hs,hE⟩:=hS.sbox;have b4:=rc0 hs;have b5:W.frozen? ⟨B.sb,0,none⟩=false:=ak hs 0;by_cases hse:n∈seen
   ·have gC:=(Ok hE n).1 hse;have HZ:=h_ (hu.o (Fp hse) W hS.it.below);clear hd hok hal hD hh hp h9 hm hg hS hM hy g1 gB ih hu hG hw hs hE hse h0;go_enter Tryz.func39,Tryz.ntmps39;go_wp2
    first|exact HZ.o|(go_ret;exact HZ.o)
   ·have gC:=(Ok hE n).2 hse;have S3:=h_ (hS.mark hs hE hn)
    have gK:bits .or .i64 (s:Int) (2^n)=((s|||2^n:Nat):Int):=by have:=j0q s (2^n) hE.lt (Nat.pow_lt_pow_right (by decide) hn);simpa using this
    have gI:IntKind.i64.wrap (2^n)=2^n:=by
     have h1:(2:Nat)^n <2^48:=Nat.pow_lt_pow_right (by decide) hn;have h2:((2:Int)^n)=((2^n:Nat):Int):=by simp
     rw [h2];generalize(2:Nat)^n=q at h1⊢;rw [IntKind.wrap_i64];omega
    have hF:Hid (LiS B tv ts tO w0 (n::seen) h7 A c (W.setCell ⟨B.sb,0,none⟩ (.int .i64 ((s|||2^n:Nat):Int))).drew∧FrL B.sb B.ob A W A (W.setCell ⟨B.sb,0,none⟩ (.int .i64 ((s|||2^n:Nat):Int))).drew):=h_ ⟨S3.o.go br.drew,(FrL.cell 0 _).trans (FrL.of_below br.drew)⟩
    have hC:fw cs [] n ⟨pc,pn⟩ g∧ov cs [] n (pts cs [] ⟨pc,pn⟩) (pts cs [] ⟨pc,pn⟩).length:=by
     rcases hal n ⟨pc,pn⟩ g hn hp h9 with h|h
     ·exact absurd h h0
     ·exact h
    have hR:=Da hC.1;obtain⟨k,hk⟩:∃k:Nat,ndS cs [] ⟨pc,pn⟩=k:=⟨(ndS cs [] ⟨pc,pn⟩).toNat,by omega⟩;have g4:k≤4096:=by have:=hR.2.2.1;omega
    have gD:(pts cs [] ⟨pc,pn⟩).length=npt k:=by have:=hR.2.2.2.1;rw [hk,Int.toNat_natCast]at this;exact this
    have hT:ndT cs [] ⟨pc,pn⟩=mkS (whB k 0 ((pts cs [] ⟨pc,pn⟩).map (dtT cs []))):=by unfold ndT ndB;rw [hk,Int.toNat_natCast]
    have gb:∀(i:Nat) (q:aa),(pts cs [] ⟨pc,pn⟩)[i]?=some q→(q.Cell=0∧q.Nth=0)∨(q.Cell≠0∧km cs [] n i q):=fun i q hq=>by
     by_cases h2:q.Cell=0
     ·refine .inl ⟨h2,?_⟩;have h3:=U3 (List.mem_of_getElem? hq);have h4:dz q.Cell q.Nth:=by simpa [dk]using h3
      unfold dz at h4;omega
     ·refine .inr ⟨h2,?_⟩;rcases hC.2 i q (gS.1 hq).1 hq with h3|h3
      ·exact absurd h3 h2
      ·exact h3
    have g8:Hid (kc cs [] n ⟨pc,pn⟩ g↔i8 cs [] n k (pts cs [] ⟨pc,pn⟩)):=h_ ⟨fun h=>by have:=h.2.2;rw [hk]at this;exact this,fun h=>⟨h0,hC.1,by rw [hk];exact h⟩⟩
    have g6:Hid (∀W',LiD B cs xs gs cA cn cc wA wc Am cm Ag cg W'→Calls Tryz.prog 40 #[.agg #[.slice cA cn cc,.slice wA 0 wc],.agg #[.slice (some ⟨bm,om,none⟩) 48 cm,.slice Ag 48 cg],.int .i64 n] W' fun e w'=>∃(G:Int) (D:Option Addr) (q d:Nat),e= .returned (.tuple #[.agg #[.int .i64 (ndK cs [] ⟨pc,pn⟩),.int .i64 G,.int .i64 k,.slice D q d],.bool true])∧ab w' w'.heap.size D q d aa.cells 2 (pts cs [] ⟨pc,pn⟩)∧Below W'.heap.size W' w'∧(∀a,D=some a→W'.heap.size≤a.block)):=h_ fun W' h=>by have:=x0g (Yr cA cn cc cs wA 0 wc [] Am 48 cm xs Ag 48 cg gs n pc pn g W' h.rc h.rw' h.rm h.rg hd hp h9) hC.1;rw [hk,hw]at this;exact this
    have g5:Hid (∀W' K G D q d,LiD B cs xs gs cA cn cc wA wc Am cm Ag cg W'→ab W' W'.heap.size D q d aa.cells 2 (pts cs [] ⟨pc,pn⟩)→Calls Tryz.prog 41 #[.agg #[.slice cA cn cc,.slice wA 0 wc],.agg #[.int .i64 K,.int .i64 G,.int .i64 k,.slice D q d]] W' (Ez (i8 cs [] n k (pts cs [] ⟨pc,pn⟩)) k ((pts cs [] ⟨pc,pn⟩).map (dtT cs [])) W')):=h_ fun W' K G D q d h hr=>t0w cA cn cc cs wA 0 wc [] n K G k D q d _ W' h.rc h.rw' hd hr g4 gD gb
    have hH:Hid (∀W',Below B.lo w0 W'→LiD B cs xs gs cA cn cc wA wc Am cm Ag cg W'):=h_ fun W' h=>hD.at_ (hlo▸h)
    by_cases hgo:i8 cs [] n k (pts cs [] ⟨pc,pn⟩)
    ·have xA:=h_ (fun W' K G D q d h hr=>t0q (g5.o W' K G D q d h hr) hgo);have gG:=g8.o.2 hgo;have gg:kt k ((pts cs [] ⟨pc,pn⟩).map (dtT cs [])):=by have:=(Kh hC.1 (by rw [hk];exact hgo)).1;rw [hk]at this;exact this
     have x2:=h_ hw;have gN:Hid (∀W' Ax m cx,ab W' W'.heap.size Ax m cx (fun z=>[.string z]) 1 ((pts cs [] ⟨pc,pn⟩).map (dtT cs []))→Calls Tryz.prog 42 #[.agg #[.int .i64 k,.slice Ax m cx]] W' fun e w'=>e= .returned (.string (ndT cs [] ⟨pc,pn⟩))∧Below W'.heap.size W' w'):=h_ fun W' Ax m cx h=>by rw [hT];exact u0t k Ax m cx _ W' h g4 gg
     have x3:h7.length≤48:=by have:=If 48 seen hM hy;omega
     have G3:Hid (h7.length+1≤maxLen∧(h7.length+1)*40≤140737488355328):=by unfold maxLen Hid;omega
     have G4:Hid (0 <3):=by simp [Hid]
     have gX:Hid (B.ob <W.heap.size∧B.sb <W.heap.size∧B.vb <W.heap.size∧(∀a,A=some a→a.block <W.heap.size)):=h_ ⟨ag hS.it.obox,hS.slt,ag hS.vbox,fun a ha=>(hS.it.own.lt a.block (by rw [ha];rfl)).2⟩;by_cases hK:ndK cs [] ⟨pc,pn⟩=1
     ·rw [hK]at g6;have xJ:=h_ (hG.o _ _ (Fr hp h9 hse gG hK));have G2:Hid (∀P T:ByteArray,∀u∈(#[.string P,.int .i64 1,.string T]:Array Value).toList,u.oneCell'=true):=by simp [Hid,Value.oneCell']
      obtain⟨x,hx⟩:∃x:be,x=⟨path,1,ndT cs [] ⟨pc,pn⟩⟩:=⟨_,rfl⟩;have gL:Hid (x.cells=[.string (mkS (if path=[]then [47]else path)),.int .i64 1,.string (ndT cs [] ⟨pc,pn⟩)]):=h_ (by rw [hx];rfl);rw [←hx]at xJ;clear hd hok hal hD hh hp h9 hm hg hS hM hy g1 gB ih hu hG hs hE hse h0 hR hk g4 gD hT gb g8 hC g5 hgo S3 hlo gG gg x3 hK hx hw;generalize(pts cs [] ⟨pc,pn⟩).map (dtT cs [])=Ls at*;generalize pts cs [] ⟨pc,pn⟩=ps at*;generalize ndT cs [] ⟨pc,pn⟩=T at*;go_enter Tryz.func39,Tryz.ntmps39;go_wp2;go_cut [] (fun wx=>Hid (LiS B tv ts tO w0 (n::seen) h7 A c wx∧FrL B.sb B.ob A W A wx))
      case first=>
       go_region
       all_goals
        go_wp2_with fail;go_meet
        case rel=>exact hF.o
      case rest=>
       rename World=>w3
       have he:Hid _:=hcut;clear hcut;have D3:=h_ (hH.o w3 he.o.1.it.below);have d0:=rc0 D3.o.db;have d1:=rc1 D3.o.db;have d2:w3.cell? ⟨B.mb,0,none⟩=some (.slice (some ⟨bm,om,none⟩) 48 cm):=by rw [←x2.o];exact aj D3.o.mb 0
       have d3:=rc1 D3.o.mb;clear e0 e1 c0 b4 b5 gC gK gI hF
       go_upto_if 63 with(first
        |(go_at_call 40;refine(g6.o _ D3.o).mono ?_;rintro e w4 ⟨G,D,q,d,rfl,hj,h8,hY⟩;have S4:=h_ (he.o.1.go (h8.alloc h8.size (.cells #[.int .i64 1,.int .i64 G,.int .i64 k,.slice D q d] 67)));have F4:=h_ (he.o.2.trans (FrL.of_below (h8.alloc h8.size (.cells #[.int .i64 1,.int .i64 G,.int .i64 k,.slice D q d] 67))));have R4:=h_ (iv hj (.cells #[.int .i64 1,.int .i64 G,.int .i64 k,.slice D q d] 67));have D4:=h_ (hH.o _ S4.o.it.below);have I4:=h_ (A_ w4 (.cells #[.int .i64 1,.int .i64 G,.int .i64 k,.slice D q d] 67));have i0:=rc0 I4.o;have i1:=rc1 I4.o;have i2:=rc2 I4.o;have i3:=rc3 I4.o;have d4:=rc0 D4.o.db;have d5:=rc1 D4.o.db;clear hj h8 hY)
        |(go_at_call 41;refine(xA.o _ _ _ _ _ _ D4.o R4.o).mono ?_;rintro e w5 ⟨Ax,m,cx,rfl,hJ,hf,hI⟩;have R7:=h_ (Iv (path:=path) S4.o F4.o I4.o hf hJ hI gX.o);have j0:(w5.alloc (.cells #[.int .i64 k,.slice Ax m cx] 69)).cell? ⟨w4.heap.size,0,none⟩=some (.int .i64 1):=aj (cq (ah I4.o (ag I4.o) hf) _) 0;clear hJ hf hI))
       obtain⟨w7,hN⟩:∃w7,w7=(w5.alloc (.cells #[.int .i64 k,.slice Ax m cx] 69)).alloc (.cells #[.string (mkS path),.int .i64 1,.string ⟨#[]⟩] 35):=⟨_,rfl⟩;rw [←hN]at R7⊢;clear hN d0 d1 d2 d3 d4 d5 i0 i1 i2 i3 j0 S4 F4 R4 D4 I4;have x0:=rc0 R7.o.x;have x1:w7.frozen? ⟨w5.heap.size+1,0,none⟩=false:=ak R7.o.x 0;go_cut [] (fun wx=>Hid (LjR B tv ts tO w0 (n::seen) h7 A c W w4.heap.size w5.heap.size (w5.heap.size+1) 1 G k D q d Ax m cx (mkS (if path=[]then [47]else path)) Ls wx))
       case first=>
        rcases ya path with⟨h1,h2⟩|⟨g2,h2⟩
        ·have g2:(mkS path).toList.isEmpty=true:=by rw [h1];exact Iw
         have g3:(mkS path).toList=[]:=List.isEmpty_iff.1 g2;have R8:=h_ (R7.o.slash (P1:=⟨#[47]⟩));rw [←h2]at R8;have H2:=h_ h2;clear h1 h2;go_wp2
         all_goals first
          |(exfalso;have h:= ‹(mkS path).toList.isEmpty=false›;rw [g2]at h;cases h;done)
          |(go_meet;case rel=>rw [←H2.o];exact R8.o)
        ·rw [←h2]at R7;clear h2;go_wp2
         all_goals first
          |(exfalso;have h:= ‹(mkS path).toList=[]›;rw [h]at g2;cases g2;done)
          |(exfalso;have h:= ‹(mkS path).toList.isEmpty=true›;rw [g2]at h;cases h;done)
          |(go_meet;case rel=>exact R7.o)
       case rest=>
        rename World=>w8
        have R8:Hid _:=hcut;clear hcut R7 x0 x1;generalize w4.heap.size=ib at*;generalize w5.heap.size=fb at*;generalize mkS (if path=[]then [47]else path)=P0 at*;have k0:=rc0 R8.o.i;have k1:=rc0 R8.o.d;have k2:=rc1 R8.o.d;have gw:=h_ (gN.o w8 Ax m cx R8.o.r)
        go_wp2_with(first
         |(at_builtin;refine dx (size:=3) (bytes:=40) (base:=B.ob+1) (H:=w9.heap.size) (news:= #[.string P0,.int .i64 1,.string T]) rfl rfl Tryz.underlying30 t8 rfl G4.o S9.o.it.own rfl (ag S9.o.it.obox) rfl xT.o rfl (G2.o P0 T) G3.o.1 G3.o.2 ?_;intro A3 c3 w4 hQ hc hU;have hq:=dw S9.o.it.obox hc (fun e=>by have h1:B.ob+1≤B.ob:=(S9.o.it.own.lt _ e).1;omega);have q1:=aj hq 0;have q2:=ak hq 0)
         |(go_at_call 42;refine gw.o.mono ?_;rintro e w9 ⟨rfl,xK⟩;have R9:=h_ (R8.o.go xK);have r0:=aj R9.o.x 2;have r1:=ak R9.o.x 2;have gU:=b9 (j:=2) (v:=.string T) R9.o.x;have r2:=aj gU 0;have r3:=aj gU 1;have r4:=aj gU 2;have S9:=h_ (R9.o.text T);have F9:=h_ (R9.o.ftext T);have xT:Hid ((w9.setCell ⟨fb+1,2,none⟩ (.string T)).heap.size=w9.heap.size):=h_ (by simp [World.setCell]);have o0:=rc0 S9.o.it.obox;clear xK gU))
        have HA:=S9.o.add (x:=x) (by rw [gL.o];exact hQ) hc hU;have HZ:=xJ.o _ _ _ HA.1 (F9.o.trans HA.2)
        first|exact HZ|(go_ret;exact HZ)
     ·have gJ:ndK cs [] ⟨pc,pn⟩=2:=hR.1.resolve_left hK;rw [gJ]at g6;obtain⟨T,hW⟩:∃T,T=ndT cs [] ⟨pc,pn⟩:=⟨_,rfl⟩;obtain⟨L,hL⟩:∃L,L=rdR T:=⟨_,rfl⟩;obtain⟨it,gH⟩:∃it:be,it=⟨path,2,⟨#[]⟩⟩:=⟨_,rfl⟩;rw [←hW]at gN;have gL:Hid (it.cells=[.string (mkS (if path=[]then [47]else path)),.int .i64 2,.string ⟨#[]⟩]):=h_ (by rw [gH];rfl);have G2:Hid (∀P:ByteArray,∀u∈(#[.string P,.int .i64 2,.string ⟨#[]⟩]:Array Value).toList,u.oneCell'=true):=by simp [Hid,Value.oneCell']
      have x6:T.size≤1048575:=by
       have h1:=Bb gg;have h2:T.size=k:=by rw [hW,hT,vq,h1]
       omega
      have gQ:Hid (∀W',Calls Tryz.prog 43 #[.string T] W' (tp T W')):=h_ fun W'=>s0p T x6 W'
      by_cases hrd:rdE T=0
      ·have hV:=Fs (path:=path) hp h9 hse gG hK (f:=f) (cs:=cs) (ws:=[]) (by rw [←hW];exact hrd);rw [←hW,←hL,gJ,←gH]at hV
       have gY:Hid (∀W',Calls Tryz.prog 43 #[.string T] W' fun e w'=>∃D q d,e= .returned (.tuple #[.slice D q d,.int .i64 0])∧ab w' w'.heap.size D q d ay.cells 2 L∧Below W'.heap.size W' w'∧(∀a,D=some a→W'.heap.size≤a.block)):=h_ fun W'=>by have:=gQ.o W';unfold tp at this;rw [hrd,←hL]at this;exact this
       have yD:Hid (∀x∈L,0≤x.Ino∧x.Ino≤47∧x.Name.size≤12):=h_ (fun x hx=>by rw [hL]at hx;have h:=(Bx (s:=T)).2 x hx;exact⟨h.2.1,h.2.2,Sq h.1⟩);have yG:(mkS path).size=path.length:=by simp [mkS,ByteArray.size]
       have xU:Hid (∀(s1:List Nat) (m1:Nat) (path':List UInt8) W' (its:List be) A1 c1,m1 <48→LiS B tv ts tO w0 s1 its A1 c1 W'→s1.Nodup→(∀k∈s1,k <48)→its.length≤s1.length→path'.length+13*f≤1000→Calls Tryz.prog 39 #[.int .i64 m1,.string (mkS path'),.int .i64 ((hz:Int)+1),.pointer (some ⟨B.mb,0,none⟩),.pointer (some ⟨B.sb,0,none⟩),.pointer (some ⟨B.db,0,none⟩),.pointer (some ⟨B.ob,0,none⟩),.pointer (some ⟨B.vb,0,none⟩)] W' (pm B tv ts tO w0 W' its A1 (vis cs [] xs gs f s1 m1 path'))):=h_ fun s1 m1 path' W' its A1 c1 h1 h2 h3 h4 h5 h6=>ih (hz+1) (by omega) s1 m1 path' W' its A1 c1 h1 h2 h3 h4 h5 h6
       have y2:Hid (∀s1 m1 path' s2 l2,m1 <48→vis cs [] xs gs f s1 m1 path'=some (s2,l2)→s2.length=s1.length+l2.length∧(s1.Nodup→s2.Nodup)∧((∀k∈s1,k <48)→∀k∈s2,k <48)):=h_ fun s1 m1 path' s2 l2 h1 h2=>by have r:=y9 f s1 m1 path' s2 l2 h1 h2;exact⟨r.len,r.nodup,r.lt⟩
       have HV:=h_ hV;have y0:Hid ((n::seen).Nodup∧(∀k∈n::seen,k <48)∧(h7++[it]++[]).length≤(n::seen).length):=h_ ⟨List.nodup_cons.2 ⟨hse,hM⟩,(fun k hk=>(List.mem_cons.1 hk).elim (fun e=>e▸hn) (hy k)),(by simp;omega)⟩;have yJ:wrap64 ((hz:Int)+1)=(hz:Int)+1:=by unfold wrap64;omega
       have yI:=X9;clear hd hok hal hD hh hp h9 hm hg hS hM hy g1 ih hs hE hse h0 hR hk g4 gD hT gb g8 hC g5 hgo S3 hlo gG gg x3 hK gJ hw hW hL gH hrd hV x6 gQ;generalize(pts cs [] ⟨pc,pn⟩).map (dtT cs [])=Ls at*;generalize pts cs [] ⟨pc,pn⟩=ps at*;generalize vis cs [] xs gs f=V at*;generalize vis cs [] xs gs (f+1) seen n path=R at*;go_enter Tryz.func39,Tryz.ntmps39;go_wp2;go_cut [] (fun wx=>Hid (LiS B tv ts tO w0 (n::seen) h7 A c wx∧FrL B.sb B.ob A W A wx))
       case first=>
        go_region
        all_goals
         go_wp2_with fail;go_meet
         case rel=>exact hF.o
       case rest=>
        rename World=>w3
        have he:Hid _:=hcut;clear hcut;have D3:=h_ (hH.o w3 he.o.1.it.below);have d0:=rc0 D3.o.db;have d1:=rc1 D3.o.db;have d2:w3.cell? ⟨B.mb,0,none⟩=some (.slice (some ⟨bm,om,none⟩) 48 cm):=by rw [←x2.o];exact aj D3.o.mb 0
        have d3:=rc1 D3.o.mb;clear e0 e1 c0 b4 b5 gC gK gI hF
        go_upto_if 63 with(first
         |(go_at_call 40;refine(g6.o _ D3.o).mono ?_;rintro e w4 ⟨G,D,q,d,rfl,hj,h8,hY⟩;have S4:=h_ (he.o.1.go (h8.alloc h8.size (.cells #[.int .i64 2,.int .i64 G,.int .i64 k,.slice D q d] 67)));have F4:=h_ (he.o.2.trans (FrL.of_below (h8.alloc h8.size (.cells #[.int .i64 2,.int .i64 G,.int .i64 k,.slice D q d] 67))));have R4:=h_ (iv hj (.cells #[.int .i64 2,.int .i64 G,.int .i64 k,.slice D q d] 67));have D4:=h_ (hH.o _ S4.o.it.below);have I4:=h_ (A_ w4 (.cells #[.int .i64 2,.int .i64 G,.int .i64 k,.slice D q d] 67));have i0:=rc0 I4.o;have i1:=rc1 I4.o;have i2:=rc2 I4.o;have i3:=rc3 I4.o;have d4:=rc0 D4.o.db;have d5:=rc1 D4.o.db;clear hj h8 hY)
         |(go_at_call 41;refine(xA.o _ _ _ _ _ _ D4.o R4.o).mono ?_;rintro e w5 ⟨Ax,m,cx,rfl,hJ,hf,hI⟩;have R7:=h_ (Iv (path:=path) S4.o F4.o I4.o hf hJ hI gX.o);have j0:(w5.alloc (.cells #[.int .i64 k,.slice Ax m cx] 69)).cell? ⟨w4.heap.size,0,none⟩=some (.int .i64 2):=aj (cq (ah I4.o (ag I4.o) hf) _) 0;clear hJ hf hI))
        obtain⟨w7,hN⟩:∃w7,w7=(w5.alloc (.cells #[.int .i64 k,.slice Ax m cx] 69)).alloc (.cells #[.string (mkS path),.int .i64 2,.string ⟨#[]⟩] 35):=⟨_,rfl⟩;rw [←hN]at R7⊢;clear hN d0 d1 d2 d3 d4 d5 i0 i1 i2 i3 j0 S4 F4 R4 D4 I4;have x0:=rc0 R7.o.x;have x1:w7.frozen? ⟨w5.heap.size+1,0,none⟩=false:=ak R7.o.x 0;go_cut [] (fun wx=>Hid (LjR B tv ts tO w0 (n::seen) h7 A c W w4.heap.size w5.heap.size (w5.heap.size+1) 2 G k D q d Ax m cx (mkS (if path=[]then [47]else path)) Ls wx))
        case first=>
         rcases ya path with⟨h1,h2⟩|⟨g2,h2⟩
         ·have g2:(mkS path).toList.isEmpty=true:=by rw [h1];exact Iw
          have g3:(mkS path).toList=[]:=List.isEmpty_iff.1 g2;have R8:=h_ (R7.o.slash (P1:=⟨#[47]⟩));rw [←h2]at R8;have H2:=h_ h2;clear h1 h2;go_wp2
          all_goals first
           |(exfalso;have h:= ‹(mkS path).toList.isEmpty=false›;rw [g2]at h;cases h;done)
           |(go_meet;case rel=>rw [←H2.o];exact R8.o)
         ·rw [←h2]at R7;clear h2;go_wp2
          all_goals first
           |(exfalso;have h:= ‹(mkS path).toList=[]›;rw [h]at g2;cases g2;done)
           |(exfalso;have h:= ‹(mkS path).toList.isEmpty=true›;rw [g2]at h;cases h;done)
           |(go_meet;case rel=>exact R7.o)
        case rest=>
         rename World=>w8
         have R8:Hid _:=hcut;clear hcut R7 x0 x1;generalize w4.heap.size=ib at*;generalize w5.heap.size=fb at*;generalize mkS (if path=[]then [47]else path)=P0 at*;have k0:=rc0 R8.o.i;have k1:=rc0 R8.o.d;have k2:=rc1 R8.o.d;have k3:=rc0 R8.o.s.it.obox;have k4:=rc0 R8.o.x;have k5:=rc1 R8.o.x;have k6:=rc2 R8.o.x
         go_wp2_with(first
          |(at_builtin;refine dx (size:=3) (bytes:=40) (base:=B.ob+1) (H:=w8.heap.size) (news:= #[.string P0,.int .i64 2,.string ⟨#[]⟩]) rfl rfl Tryz.underlying30 t8 rfl G4.o R8.o.s.it.own rfl (ag R8.o.s.it.obox) rfl rfl rfl (G2.o P0) G3.o.1 G3.o.2 ?_;intro A3 c3 w9 hQ hc hU;have hq:=dw R8.o.s.it.obox hc (fun e=>by have h1:B.ob+1≤B.ob:=(R8.o.s.it.own.lt _ e).1;omega);have q1:=aj hq 0;have q2:=ak hq 0;have HA:=R8.o.s.add (x:=it) (by rw [gL.o];exact hQ) hc hU;have SA:=h_ HA.1;have FA:=h_ (R8.o.f.trans HA.2);have g9:=h_ (cp (a:=⟨B.ob,0,none⟩) (v:=.slice A3 (h7.length+1) c3) (dw R8.o.d hc (R8.o.own_fb)) (R8.o.fb_ob));have gZ:=h_ (R8.o.rows_add hc (.slice A3 (h7.length+1) c3));have t0:=aj g9.o 0;have t1:=aj g9.o 1;simp only [sA,sB,sC]at t0 t1;have gw:=h_ (gN.o _ Ax m cx gZ.o);clear hq hQ hc hU HA)
          |(go_at_call 42;refine gw.o.mono ?_;rintro e xB ⟨rfl,hX⟩;have hZ:=h_ (SA.o.go hX);have xH:=h_ (FA.o.trans (FrL.of_below hX));clear hX)
          |(go_at_call 43;refine(gY.o xB).mono ?_;rintro e xb ⟨AL,mL,cL,rfl,xL,hP,xE⟩;have xD:=h_ (hZ.o.go hP);have yE:=h_ (xH.o.trans (FrL.of_below hP));have RL:=h_ xL;have NL:=h_ xE;have ZL:=h_ hP.size;clear xL hP xE))
         have y4:=RL.o.len;subst y4;have yH:(L.length:Int)≤9223372036854775807:=by have h1:=RL.o.le;have h2:=RL.o.top;unfold maxLen at h2;omega
         have xW:Hid (∀a,AL=some a→∀a6,A3=some a6→a6.block≠a.block):=h_ fun a ha a6 h6 e=>by have h1:=NL.o a ha;have h2:=(hZ.o.it.own.lt a6.block (by rw [h6];rfl)).2;omega
         have xZ:Hid (∀a,AL=some a→a.block≠B.ob):=h_ fun a ha e=>by have h1:=NL.o a ha;have h2:=ag hZ.o.it.obox;omega
         have ys:Hid (∀a,AL=some a→a.block≠B.sb):=h_ fun a ha e=>by have h1:=NL.o a ha;have h2:=hZ.o.slt;omega
         clear t0 t1 q1 q2 k0 k1 k2 k3 k4 k5 k6;go_loopw [89] (fun v89 wr=>∃(i:Nat) (s1:List Nat) (hB:List be) (A6:Option Addr) (c6:Nat),i≤L.length∧v89= .int .i64 i∧Hid (LiS B tv ts tO w0 s1 (h7++[it]++hB) A6 c6 wr)∧Hid (ab wr xb.heap.size AL L.length cL ay.cells 2 L)∧Hid (FrL B.sb B.ob A W A6 wr)∧Hid (xb.heap.size≤wr.heap.size)∧Hid (∀a,AL=some a→∀a6,A6=some a6→a6.block≠a.block)∧Hid (s1.Nodup∧(∀k∈s1,k <48)∧(h7++[it]++hB).length≤s1.length)∧Hid (fp V path (n::seen) (L.drop 0)=lv hB (fp V path s1 (L.drop i)))) (fun v89 _=>L.length- (intOf v89).toNat)
         case atStart=>exact⟨0,n::seen,[],A3,c3,zl,rfl,h_ (by rw [List.append_nil];exact xD.o),RL.o,yE.o,h_ ler,xW.o,y0.o,h_ (by rw [Fw])⟩
         case round=>
          obtain⟨i,s1,hB,A6,c6,hi,rfl,xM,xN,xF,x4,xQ,gP,HQ⟩:=hrel;rename World=>wr
          by_cases hy:i <L.length
          ·obtain⟨t,ht⟩:∃t,L[i]?=some t:=⟨_,gE hy⟩;have x7:=yD.o t (List.mem_of_getElem? ht);obtain⟨nm,xR⟩:=t;simp only at x7;obtain⟨kk,rfl⟩:∃kk:Nat,xR=kk:=⟨xR.toNat,by omega⟩;have gM:kk <48:=by omega
           obtain⟨ga,o,hA,yB,gT⟩:=xN.o.at_ i _ ht;have e0:wr.cell? ⟨ga,o+i*2,none⟩=some (.string nm):=by simpa using gT 0 _ rfl
           have e1:wr.cell? ⟨ga,o+i*2+1,none⟩=some (.int .i64 kk):=gT 1 _ rfl;subst hA;have xV:(i:Int) < (L.length:Int):=by omega
           have z1:¬(9223372036854775807:Nat) < (mkS path).size+1:=by omega
           have z2:¬(9223372036854775807:Nat) < (mkS path).size+1+nm.size:=by omega
           have B7:Below wr.heap.size wr (wr.alloc (.cells #[.string nm,.int .i64 kk] 99)):=br.alloc ler _;have S7:=xM.o.go B7;have c4:=rc0 S7.vbox;have gF:=xU.o s1 kk (path++47::bl nm) _ (h7++[it]++hB) A6 c6 gM S7 gP.o.1 gP.o.2.1 gP.o.2.2 (by simp [m9];omega);rw [←Yz]at gF;have y5:Hid (FrL B.sb B.ob A6 wr A6 (wr.alloc (.cells #[.string nm,.int .i64 kk] 99))):=h_ (FrL.of_below B7);have xX:=h_ (show i+1≤L.length by omega);cases hv:V s1 kk (path++47::bl nm)with
           |none=>
            have HC:=h_ (Tj gF hv);have y3:=h_ (hu.o (by rw [HV.o,HQ.o,Fv ht (by simpa using hv)];rfl));clear hv gF ht gT x7 gM B7 S7;go_wp2_with(refine HC.o.mono ?_;rintro e w8 ⟨rfl,xI⟩;have yC:=h_ xI;clear xI);have HZ:=y3.o _ yC.o
            first|exact HZ|(go_ret;exact HZ)
           |some r=>
            obtain⟨s2,l2⟩:=r;have HC:=h_ (Ix gF hv);have yA:Hid (fp V path (n::seen) (L.drop 0)=lv (hB++l2) (fp V path s2 (L.drop (i+1)))):=h_ (by rw [HQ.o,Ft ht (by simpa using hv),Fx])
            have y6:Hid (s2.Nodup∧(∀k∈s2,k <48)∧(h7++[it]++(hB++l2)).length≤s2.length):=h_ (by
 obtain⟨v1,v2,v3⟩:=y2.o _ _ _ _ _ gM hv
 obtain⟨u1,u2,u3⟩:=gP.o
 refine⟨v2 u1,v3 u2,?_⟩
 rw [v1,←List.append_assoc,List.length_append];omega)
            clear hv gF ht gT x7 gM B7 S7;go_wp2_with(refine HC.o.mono ?_;rintro e w8 ⟨rfl,A8,c8,xG,xP⟩;have yF:=h_ xG;have gW:=h_ (y5.o.trans xP);clear xG xP);go_roundw
            case rel=>exact⟨i+1,s2,hB++l2,A8,c8,xX.o,by go_num,h_ (by rw [←List.append_assoc];exact yF.o),gW.o.ents xN.o x4.o xZ.o ys.o xQ.o,xF.o.trans gW.o,h_ (Nat.le_trans x4.o gW.o.size),gW.o.apart yB x4.o xQ.o,y6.o,yA.o⟩
            case measure=>simp [intOf];omega
          ·have xV:¬(i:Int) < (L.length:Int):=by omega
           have HZ:=h_ (hG.o s1 (it::hB) (by rw [HV.o,HQ.o,Fu (by omega),qz,qz];simp) A6 c6 wr (by have:=xM.o;rw [List.append_assoc]at this;exact this) xF.o);go_wp2
           first|exact HZ.o|(go_ret;exact HZ.o)
      ·have xC:=h_ (hu.o (Fq hp h9 hK (by rw [←hW];exact hrd)));have gY:Hid (∀W',Calls Tryz.prog 43 #[.string T] W' fun e w'=>∃D q d,e= .returned (.tuple #[.slice D q d,.int .i64 (rdE T)])∧Below W'.heap.size W' w'):=h_ fun W'=>(gQ.o W').mono fun _ _ ⟨D,q,d,h1,_,h2,_⟩=>⟨D,q,d,h1,h2⟩
       have g7:(rdE T !=0)=true:=bN hrd;clear hd hok hal hD hh hp h9 hm hg hS hM hy g1 gB ih hu hG hs hE hse h0 hR hk g4 gD hT gb g8 hC g5 hgo S3 hlo gG gg x3 hK gJ hw hW hL gH hrd x6 gQ;generalize(pts cs [] ⟨pc,pn⟩).map (dtT cs [])=Ls at*;generalize pts cs [] ⟨pc,pn⟩=ps at*;generalize rdE T=E at*;go_enter Tryz.func39,Tryz.ntmps39;go_wp2;go_cut [] (fun wx=>Hid (LiS B tv ts tO w0 (n::seen) h7 A c wx∧FrL B.sb B.ob A W A wx))
       case first=>
        go_region
        all_goals
         go_wp2_with fail;go_meet
         case rel=>exact hF.o
       case rest=>
        rename World=>w3
        have he:Hid _:=hcut;clear hcut;have D3:=h_ (hH.o w3 he.o.1.it.below);have d0:=rc0 D3.o.db;have d1:=rc1 D3.o.db;have d2:w3.cell? ⟨B.mb,0,none⟩=some (.slice (some ⟨bm,om,none⟩) 48 cm):=by rw [←x2.o];exact aj D3.o.mb 0
        have d3:=rc1 D3.o.mb;clear e0 e1 c0 b4 b5 gC gK gI hF
        go_upto_if 63 with(first
         |(go_at_call 40;refine(g6.o _ D3.o).mono ?_;rintro e w4 ⟨G,D,q,d,rfl,hj,h8,hY⟩;have S4:=h_ (he.o.1.go (h8.alloc h8.size (.cells #[.int .i64 2,.int .i64 G,.int .i64 k,.slice D q d] 67)));have F4:=h_ (he.o.2.trans (FrL.of_below (h8.alloc h8.size (.cells #[.int .i64 2,.int .i64 G,.int .i64 k,.slice D q d] 67))));have R4:=h_ (iv hj (.cells #[.int .i64 2,.int .i64 G,.int .i64 k,.slice D q d] 67));have D4:=h_ (hH.o _ S4.o.it.below);have I4:=h_ (A_ w4 (.cells #[.int .i64 2,.int .i64 G,.int .i64 k,.slice D q d] 67));have i0:=rc0 I4.o;have i1:=rc1 I4.o;have i2:=rc2 I4.o;have i3:=rc3 I4.o;have d4:=rc0 D4.o.db;have d5:=rc1 D4.o.db;clear hj h8 hY)
         |(go_at_call 41;refine(xA.o _ _ _ _ _ _ D4.o R4.o).mono ?_;rintro e w5 ⟨Ax,m,cx,rfl,hJ,hf,hI⟩;have R7:=h_ (Iv (path:=path) S4.o F4.o I4.o hf hJ hI gX.o);have j0:(w5.alloc (.cells #[.int .i64 k,.slice Ax m cx] 69)).cell? ⟨w4.heap.size,0,none⟩=some (.int .i64 2):=aj (cq (ah I4.o (ag I4.o) hf) _) 0;clear hJ hf hI))
        obtain⟨w7,hN⟩:∃w7,w7=(w5.alloc (.cells #[.int .i64 k,.slice Ax m cx] 69)).alloc (.cells #[.string (mkS path),.int .i64 2,.string ⟨#[]⟩] 35):=⟨_,rfl⟩;rw [←hN]at R7⊢;clear hN d0 d1 d2 d3 d4 d5 i0 i1 i2 i3 j0 S4 F4 R4 D4 I4;have x0:=rc0 R7.o.x;have x1:w7.frozen? ⟨w5.heap.size+1,0,none⟩=false:=ak R7.o.x 0;go_cut [] (fun wx=>Hid (LjR B tv ts tO w0 (n::seen) h7 A c W w4.heap.size w5.heap.size (w5.heap.size+1) 2 G k D q d Ax m cx (mkS (if path=[]then [47]else path)) Ls wx))
        case first=>
         rcases ya path with⟨h1,h2⟩|⟨g2,h2⟩
         ·have g2:(mkS path).toList.isEmpty=true:=by rw [h1];exact Iw
          have g3:(mkS path).toList=[]:=List.isEmpty_iff.1 g2;have R8:=h_ (R7.o.slash (P1:=⟨#[47]⟩));rw [←h2]at R8;have H2:=h_ h2;clear h1 h2;go_wp2
          all_goals first
           |(exfalso;have h:= ‹(mkS path).toList.isEmpty=false›;rw [g2]at h;cases h;done)
           |(go_meet;case rel=>rw [←H2.o];exact R8.o)
         ·rw [←h2]at R7;clear h2;go_wp2
          all_goals first
           |(exfalso;have h:= ‹(mkS path).toList=[]›;rw [h]at g2;cases g2;done)
           |(exfalso;have h:= ‹(mkS path).toList.isEmpty=true›;rw [g2]at h;cases h;done)
           |(go_meet;case rel=>exact R7.o)
        case rest=>
         rename World=>w8
         have R8:Hid _:=hcut;clear hcut R7 x0 x1;generalize w4.heap.size=ib at*;generalize w5.heap.size=fb at*;generalize mkS (if path=[]then [47]else path)=P0 at*;have k0:=rc0 R8.o.i;have k1:=rc0 R8.o.d;have k2:=rc1 R8.o.d;have k3:=rc0 R8.o.s.it.obox;have k4:=rc0 R8.o.x;have k5:=rc1 R8.o.x;have k6:=rc2 R8.o.x
         go_wp2_with(first
          |(at_builtin;refine dx (size:=3) (bytes:=40) (base:=B.ob+1) (H:=w8.heap.size) (news:= #[.string P0,.int .i64 2,.string ⟨#[]⟩]) rfl rfl Tryz.underlying30 t8 rfl G4.o R8.o.s.it.own rfl (ag R8.o.s.it.obox) rfl rfl rfl (G2.o P0) G3.o.1 G3.o.2 ?_;intro A3 c3 w9 hQ hc hU;have hq:=dw R8.o.s.it.obox hc (fun e=>by have h1:B.ob+1≤B.ob:=(R8.o.s.it.own.lt _ e).1;omega);have q1:=aj hq 0;have q2:=ak hq 0;have HA:=R8.o.s.add (x:=it) (by rw [gL.o];exact hQ) hc hU;have SA:=h_ HA.1;have FA:=h_ (R8.o.f.trans HA.2);have g9:=h_ (cp (a:=⟨B.ob,0,none⟩) (v:=.slice A3 (h7.length+1) c3) (dw R8.o.d hc (R8.o.own_fb)) (R8.o.fb_ob));have gZ:=h_ (R8.o.rows_add hc (.slice A3 (h7.length+1) c3));have t0:=aj g9.o 0;have t1:=aj g9.o 1;simp only [sA,sB,sC]at t0 t1;have gw:=h_ (gN.o _ Ax m cx gZ.o);clear hq hQ hc hU HA)
          |(go_at_call 42;refine gw.o.mono ?_;rintro e xB ⟨rfl,hX⟩;have hZ:=h_ (SA.o.go hX);have xH:=h_ (FA.o.trans (FrL.of_below hX));clear hX)
          |(go_at_call 43;refine(gY.o xB).mono ?_;rintro e xb ⟨AL,mL,cL,rfl,hP⟩;have xD:=h_ (hZ.o.go hP);clear hP))
         have HZ:=xC.o _ xD.o.it.below
         first|exact HZ|(go_ret;exact HZ)
    ·have y1:=h_ (fun W' K G D q d h hr=>t0r (g5.o W' K G D q d h hr) hgo);have xC:=h_ (hu.o (sf hp h9 (fun h=>hgo (g8.o.1 h))));clear hd hok hal hD hh hp h9 hm hg hS hM hy g1 gB ih hu hG hs hE hse h0 hR hk g4 gD hT gb g8 hC g5 hgo S3 hlo;generalize pts cs [] ⟨pc,pn⟩=ps at*;generalize ndK cs [] ⟨pc,pn⟩=K at*;go_enter Tryz.func39,Tryz.ntmps39;go_wp2;go_cut [] (fun wx=>Hid (LiS B tv ts tO w0 (n::seen) h7 A c wx∧FrL B.sb B.ob A W A wx))
     case first=>
      go_region
      all_goals
       go_wp2_with fail;go_meet
       case rel=>exact hF.o
     case rest=>
      rename World=>w3
      have he:Hid _:=hcut;clear hcut;have D3:=h_ (hH.o w3 he.o.1.it.below);have d0:=rc0 D3.o.db;have d1:=rc1 D3.o.db;have d2:w3.cell? ⟨B.mb,0,none⟩=some (.slice (some ⟨bm,om,none⟩) 48 cm):=by rw [←hw];exact aj D3.o.mb 0
      have d3:=rc1 D3.o.mb;clear hw e0 e1 c0 b4 b5 gC gK gI hF
      go_wp2_with(first
       |(go_at_call 40;refine(g6.o _ D3.o).mono ?_;rintro e w4 ⟨G,D,q,d,rfl,hj,h8,hY⟩;have S4:=h_ (he.o.1.go (h8.alloc h8.size (.cells #[.int .i64 K,.int .i64 G,.int .i64 k,.slice D q d] 67)));have R4:=h_ (iv hj (.cells #[.int .i64 K,.int .i64 G,.int .i64 k,.slice D q d] 67));have D4:=h_ (hH.o _ S4.o.it.below);have I4:=h_ (A_ w4 (.cells #[.int .i64 K,.int .i64 G,.int .i64 k,.slice D q d] 67));have i0:=rc0 I4.o;have i1:=rc1 I4.o;have i2:=rc2 I4.o;have i3:=rc3 I4.o;have d4:=rc0 D4.o.db;have d5:=rc1 D4.o.db;clear hj h8 hY)
       |(go_at_call 41;refine(y1.o _ _ _ _ _ _ D4.o R4.o).mono ?_;rintro e w5 ⟨rfl,hf⟩;have S5:=h_ ((S4.o.go hf).go (br.alloc ler (.cells #[.int .i64 0,.slice none 0 0] 69)));clear hf))
      have HZ:=xC.o _ S5.o.it.below
      first|exact HZ|(go_ret;exact HZ)
end Go.Proofs.YtcldpfhpkbeaiadGreat
