/- A part of the proof of FsMounts. No condition of ours. -/
import Derived.Test.YtcldpfhpkbeaiadGreatFsMounts46
set_option maxRecDepth 100000
set_option maxHeartbeats 8000000
namespace Go.Proofs.YtcldpfhpkbeaiadGreat
open Go.RowKit Go.PlainAid
theorem Oj{s:Nat}{seen:List Nat}(h:mt s seen)(n:Nat):(n∈seen→(bits .and .i64 ((s:Int)/2^n) 1==0)=false)∧(n∉seen→(bits .and .i64 ((s:Int)/2^n) 1==0)=true):=by
 have e:bits .and .i64 ((s:Int)/2^n) 1=((s/2^n%2:Nat):Int):=by rw [Ld,show((2:Int)^n)=((2^n:Nat):Int) by simp];omega
 rw [e,h.div n];exact⟨fun h=>by rw [if_pos h];rfl,fun h=>by rw [if_neg h];rfl⟩
theorem Zy{cs:List ByteArray}{ws:List ae}{xs:List aa}{gs:List Int}{f n:Nat}{seen s:List Nat}{path:List UInt8}{l:List be}(h:vis cs ws xs gs (f+1) seen n path=some (s,l)):∃T r,l=⟨path,ndK cs ws (xs.getD n ⟨0,0⟩),T⟩::r:=by
 unfold vis at h;split at h
 ·cases h
 ·split at h
  ·split at h
   ·rename_i hK;simp only [Option.some.injEq,Prod.mk.injEq]at h;exact⟨_,[],by rw [←h.2,hK]⟩
   ·split at h
    ·split at h
     ·cases h
     ·simp only [Option.some.injEq,Prod.mk.injEq]at h;exact⟨_,_,h.2.symm⟩
    ·cases h
  ·cases h
def tx(cs:List ByteArray)(xs:List aa)(gs:List Int)(w:World)(e:Ending)(w':World):Prop:=
 Below w.heap.size w w'∧((ea cs xs gs∧∃s l A n c,vis cs [] xs gs 9 [] 0 []=some (s,l)∧e= .returned (.tuple #[.slice A n c,.bool true])∧ab w' w'.heap.size A n c be.cells 3 l)∨
 (¬ea cs xs gs∧e= .returned (.tuple #[.slice none 0 0,.bool false])))
theorem w0x{f:FuncId}{args:Array Value}{cs:List ByteArray}{ws:List ae}{xs:List aa}{gs:List Int}{W:World}(h:Calls Tryz.prog f args W (ua cs ws xs gs W))(hg:ix cs ws xs gs 48):Calls Tryz.prog f args W fun e w'=>∃D q d,e= .returned (.tuple #[.slice D q d,.bool true])∧Below W.heap.size W w':=
 h.mono fun _ _ h=>by
  rcases h with⟨_,D,d,h1,_,h2⟩|⟨h,_⟩
  ·exact⟨D,_,d,h1,h2⟩
  ·exact absurd hg h
theorem w0y{f:FuncId}{args:Array Value}{cs:List ByteArray}{ws:List ae}{xs:List aa}{gs:List Int}{W:World}(h:Calls Tryz.prog f args W (ua cs ws xs gs W))(hg:¬ix cs ws xs gs 48):Calls Tryz.prog f args W fun e w'=>e= .returned (.tuple #[.slice none 0 0,.bool false])∧Below W.heap.size W w':=
 h.mono fun _ _ h=>by
  rcases h with⟨h,_⟩|⟨_,h⟩
  ·exact absurd h hg
  ·exact h
theorem Ct(w:World)(o1 o2 o3:Obj):(((w.alloc o1).alloc o2).alloc o3).heap[w.heap.size]?=some o1∧(((w.alloc o1).alloc o2).alloc o3).heap[w.heap.size+1]?=some o2∧(((w.alloc o1).alloc o2).alloc o3).heap[w.heap.size+1+1]?=some o3∧Below w.heap.size w (((w.alloc o1).alloc o2).alloc o3):=
 ⟨(nj w o1 o2 o3).1,(nj w o1 o2 o3).2.1,(nj w o1 o2 o3).2.2,(vk w o1 o2 o3).2⟩
abbrev lsB(w w2:World):LiB:=⟨w.heap.size+1,w.heap.size,w2.heap.size+1,w2.heap.size,w2.heap.size+1+1,w2.heap.size⟩
theorem It(w w2:World):LiS (lsB w w2) 109 3 30 w2 [] [] none 0 (((w2.alloc (.cells #[.slice none 0 0] 30)).alloc (.cells #[.int .i64 0] 3)).alloc (.cells #[.func (.func 39) #[] #[.pointer (some ⟨w.heap.size+1,0,none⟩),.pointer (some ⟨w2.heap.size+1,0,none⟩),.pointer (some ⟨w.heap.size,0,none⟩),.pointer (some ⟨w2.heap.size,0,none⟩),.pointer (some ⟨w2.heap.size+1+1,0,none⟩)]] 109)):=by obtain⟨h1,h2,h3,h4⟩:=Ct w2 (.cells #[.slice none 0 0] 30) (.cells #[.int .i64 0] 3) (.cells #[.func (.func 39) #[] #[.pointer (some ⟨w.heap.size+1,0,none⟩),.pointer (some ⟨w2.heap.size+1,0,none⟩),.pointer (some ⟨w.heap.size,0,none⟩),.pointer (some ⟨w2.heap.size,0,none⟩),.pointer (some ⟨w2.heap.size+1+1,0,none⟩)]] 109);exact {it:= {below:=h4,obox:=h1,own:=af.nil _ _ _,lo:=Nat.le_refl _},sbox:=⟨0,h2,mt.nil⟩,vbox:=h3,los:=by dsimp only;omega,so:=by dsimp only;omega,vo:=by dsimp only;omega,vs:=by dsimp only;omega,az:=(fun a ha=>by cases ha),av:=(fun a ha=>by cases ha)}
theorem T8{B:LiB}{tv ts tO:TypeId}{w0 W:World}{s:List Nat}{l tl:List be}{x:be}{A3:Option Addr}{c3:Nat}(h:LiS B tv ts tO w0 s ([]++l) A3 c3 W)(hl:l=x::tl):∃gb o3,W.cell? ⟨B.ob,0,none⟩=some (.slice (some ⟨gb,o3,none⟩) (tl.length+1) c3)∧W.cell? ⟨gb,o3+1,none⟩=some (.int .i64 x.Kind)∧ab W W.heap.size (some ⟨gb,o3,none⟩) (tl.length+1) c3 be.cells 3 l:=by
 rw [List.nil_append]at h;have hn:l.length=tl.length+1:=by rw [hl];rfl
 have r:=af.rows (enc:=be.cells) (k:=3) (fun _=>rfl) (Nat.zero_lt_succ 2) h.it.own;obtain⟨b,o,e,_,hc⟩:=r.at_ 0 x (by rw [hl];rfl);subst e;rw [hn]at r;have h0:=aj h.it.obox 0;rw [hn]at h0;exact⟨b,o,h0,by have:=hc 1 _ rfl;simpa using this,r⟩
theorem n0j(A:Option Addr)(n c:Nat)(cs:List ByteArray)(A':Option Addr)(c':Nat)(Am:Option Addr)(cm:Nat)(xs:List aa)(Ag:Option Addr)(cg:Nat)(gs:List Int)(w:World)(r:ab w w.heap.size A n c (fun z=>[.string z]) 1 cs)(r':ab w w.heap.size A' 0 c' ae.cells 2 [])(rm:ab w w.heap.size Am 48 cm aa.cells 2 xs)(rg:ab w w.heap.size Ag 48 cg (fun z=>[.int .i64 z]) 1 gs)(hd:au cs []=0)(hok:jw xs gs):Calls Tryz.prog 17 #[.agg #[.slice A n c,.slice A' 0 c'],.agg #[.slice Am 48 cm,.slice Ag 48 cg]] w (tx cs xs gs w):=by
 obtain⟨wa,hg⟩:∃wa,wa=(w.alloc (.cells #[.slice A n c,.slice A' 0 c'] 25)).alloc (.cells #[.slice Am 48 cm,.slice Ag 48 cg] 43):=⟨_,rfl⟩;have hJ:wa.heap.size=w.heap.size+2:=by rw [hg];simp
 have hc:Below w.heap.size w wa:=by rw [hg];exact(br.alloc ler _).alloc (by simp) _
 have hz:wa.heap[w.heap.size+1]?=some (.cells #[.slice Am 48 cm,.slice Ag 48 cg] 43 (0,0)):=by rw [hg];exact pd w _ _
 have hs:wa.heap[w.heap.size]?=some (.cells #[.slice A n c,.slice A' 0 c'] 25 (0,0)):=by rw [hg];exact(heap_alloc_old _ _ (by simp)).trans (A_ w _)
 have hm:Hid (∀B:LiB,B.db=w.heap.size→B.mb=w.heap.size+1→∀W,Below wa.heap.size wa W→LiD B cs xs gs A n c A' c' Am cm Ag cg W):=h_ fun B h1 h2 W hW=> {db:=by rw [h1];exact ah hs (ag hs) hW,mb:=by rw [h2];exact ah hz (ag hz) hW,rc:=((r.below hc).more hc.size |>.below hW).more hW.size,rw':=((r'.below hc).more hc.size |>.below hW).more hW.size,rm:=((rm.below hc).more hc.size |>.below hW).more hW.size,rg:=((rg.below hc).more hc.size |>.below hW).more hW.size}
 have D0:=hm.o ⟨w.heap.size+1,w.heap.size,0,0,0,0⟩ rfl rfl wa br;have hh:=h_ (w0v A n c cs A' 0 c' [] Am 48 cm xs Ag 48 cg gs wa D0.rc D0.rw' D0.rm D0.rg hd hok);have v0:=rc0 hs;have v1:=rc1 hs;have v2:=rc0 hz;have v3:=rc1 hz;have hf:Hid (¬ea cs xs gs→∀w',Below w.heap.size w w'→tx cs xs gs w (.returned (.tuple #[.slice none 0 0,.bool false])) w'):=h_ fun h1 w' h2=>⟨h2,.inr ⟨h1,rfl⟩⟩
 have hu:Hid (ea cs xs gs→∀s l A n c w',vis cs [] xs gs 9 [] 0 []=some (s,l)→ab w' w'.heap.size A n c be.cells 3 l→Below w.heap.size w w'→tx cs xs gs w (.returned (.tuple #[.slice A n c,.bool true])) w'):=h_ fun h1 s l A n c w' h2 h3 h4=>⟨h4,.inl ⟨h1,s,l,A,n,c,h2,rfl,h3⟩⟩
 generalize tx cs xs gs w=PP at*;have hC:=h_ hg;have he:=h_ hc;have hY:=h_ hJ;clear r r' rm rg hs hz hc hg D0 hJ;by_cases hal:ix cs [] xs gs 48
 ·have hE:=h_ (w0x hh.o hal)
  have hx:Hid (∀(B:LiB) (w0 wz:World),B.db=w.heap.size→B.mb=w.heap.size+1→B.lo=w0.heap.size→Below wa.heap.size wa w0→LiS B 109 3 30 w0 [] [] none 0 wz→Calls Tryz.prog 39 #[.int .i64 0,.string ⟨#[]⟩,.int .i64 0,.pointer (some ⟨B.mb,0,none⟩),.pointer (some ⟨B.sb,0,none⟩),.pointer (some ⟨B.db,0,none⟩),.pointer (some ⟨B.ob,0,none⟩),.pointer (some ⟨B.vb,0,none⟩)] wz (pm B 109 3 30 w0 wz [] none (vis cs [] xs gs 9 [] 0 []))):=h_ fun B w0 wz h1 h2 h3 h4 h5=>n0k B _ _ _ cs xs gs A n c A' c' Am cm Ag cg w0 (hm.o B h1 h2 w0 h4) h3 hd hok hal 9 0 rfl [] 0 [] wz [] none 0 (by omega) h5 List.nodup_nil (fun k hk=>by simp at hk) ler (by simp)
  have hX:=X9;cases hv:vis cs [] xs gs 9 [] 0 []with
  |none=>
   have h9:=h_ (hf.o (fun⟨s,l,h,_⟩=>by rw [hv]at h;cases h));rw [hv]at hx;clear hd hok hal hf hu hh hv;go_enter Tryz.func17,Tryz.ntmps17
   go_wp2_with(first
    |(go_at_call 38;rw [←hC.o];refine hE.o.mono ?_;rintro e w2 ⟨D,q,d,rfl,h6⟩;have B2:=h_ (he.o.trans (h6.mono he.o.size));have ha:=(Ct w2 (.cells #[.slice none 0 0] 30) (.cells #[.int .i64 0] 3) (.cells #[.nilFunc] 109)).2.2.1;have n0:=aj ha 0;have n1:=ak ha 0;simp only [sA,sC]at n0;have SZ:=h_ (It w w2);obtain⟨wz,h8⟩:∃wz,wz=((w2.alloc (.cells #[.slice none 0 0] 30)).alloc (.cells #[.int .i64 0] 3)).alloc (.cells #[.func (.func 39) #[] #[.pointer (some ⟨w.heap.size+1,0,none⟩),.pointer (some ⟨w2.heap.size+1,0,none⟩),.pointer (some ⟨w.heap.size,0,none⟩),.pointer (some ⟨w2.heap.size,0,none⟩),.pointer (some ⟨w2.heap.size+1+1,0,none⟩)]] 109):=⟨_,rfl⟩;rw [←h8]at SZ;have hq:=h_ h8;have z0:=rc0 SZ.o.vbox;have hj:=hx.o _ w2 wz rfl rfl rfl h6 SZ.o;have DW:=h_ (hm.o (lsB w w2) rfl rfl w2 h6);clear h8 h6 ha)
    |(rw [←hq.o];refine(Tj hj rfl).mono ?_;rintro e w3 ⟨rfl,hL⟩;have B3:=h_ (B2.o.trans (hL.mono B2.o.size));clear hL))
   have HZ:=h9.o _ B3.o
   first|exact HZ|(go_ret2;exact HZ)
  |some rr=>
   obtain⟨s,l⟩:=rr;rw [hv]at hx;obtain⟨T,tl,hD⟩:=Zy hv;have hr:=y9 _ _ _ _ _ _ (show 0 <48 by omega) hv
   have ht:Hid (ea cs xs gs↔ndK cs [] (xs.getD 0 ⟨0,0⟩)=2∧∀(n:Nat) (p:aa),xs[n]?=some p→p.Cell≠0→n∈s):=h_ ⟨fun⟨s',l',h1,h2,h3⟩=>by
 rw [hv]at h1;injection h1 with h1;injection h1 with h1 _;subst h1;exact⟨h2,h3⟩,fun⟨h1,h2⟩=>⟨s,l,hv,h1,h2⟩⟩
   have hG:=h_ hok;have hH:Hid (ea cs xs gs→∀A n c w',ab w' w'.heap.size A n c be.cells 3 l→Below w.heap.size w w'→PP (.returned (.tuple #[.slice A n c,.bool true])) w'):=h_ fun h A n c w' h1 h2=>hu.o h s l A n c w' hv h1 h2
   have hF:=h_ hD;have i0:(0:Int) < (tl.length:Int)+1:=by omega
   have i1:(0:Int)≤0:=Int.le_refl _;have i2:0 <tl.length+1:=Nat.succ_pos _;by_cases hK:ndK cs [] (xs.getD 0 ⟨0,0⟩)=2
   ·rw [hK]at hF;have hI:Hid (ea cs xs gs↔∀(n:Nat) (p:aa),xs[n]?=some p→p.Cell≠0→n∈s):=h_ ⟨fun h=>(ht.o.1 h).2,fun h=>ht.o.2 ⟨hK,h⟩⟩;clear hd hok hal hu hh hv hD hr hK ht;generalize ea cs xs gs=OK at*;go_enter Tryz.func17,Tryz.ntmps17
    go_wp2_with(first
     |(go_at_call 38;rw [←hC.o];refine hE.o.mono ?_;rintro e w2 ⟨D,q,d,rfl,h6⟩;have B2:=h_ (he.o.trans (h6.mono he.o.size));have ha:=(Ct w2 (.cells #[.slice none 0 0] 30) (.cells #[.int .i64 0] 3) (.cells #[.nilFunc] 109)).2.2.1;have n0:=aj ha 0;have n1:=ak ha 0;simp only [sA,sC]at n0;have SZ:=h_ (It w w2);obtain⟨wz,h8⟩:∃wz,wz=((w2.alloc (.cells #[.slice none 0 0] 30)).alloc (.cells #[.int .i64 0] 3)).alloc (.cells #[.func (.func 39) #[] #[.pointer (some ⟨w.heap.size+1,0,none⟩),.pointer (some ⟨w2.heap.size+1,0,none⟩),.pointer (some ⟨w.heap.size,0,none⟩),.pointer (some ⟨w2.heap.size,0,none⟩),.pointer (some ⟨w2.heap.size+1+1,0,none⟩)]] 109):=⟨_,rfl⟩;rw [←h8]at SZ;have hq:=h_ h8;have z0:=rc0 SZ.o.vbox;have hj:=hx.o _ w2 wz rfl rfl rfl h6 SZ.o;have DW:=h_ (hm.o (lsB w w2) rfl rfl w2 h6);clear h8 h6 ha)
     |(rw [←hq.o];refine(Ix hj rfl).mono ?_;rintro e w3 ⟨rfl,A3,c3,h7,_⟩;obtain⟨gb,o3,f0,f1,hw⟩:=T8 h7 hF.o;have S3:=h_ h7;have R3:=h_ hw;have B3:=h_ (B2.o.trans (h7.it.below.mono B2.o.size));have D3:=h_ (DW.o.at_ h7.it.below);simp only at f0 f1;clear h7 hw))
    obtain⟨sN,hM,hN⟩:=S3.o.sbox;have b0:=rc0 hM;have hP:=h_ hN;have m0:=rc0 D3.o.mb;have hV:=h_ D3.o.rm;clear n0 n1 z0 hj f1 hM hN v0 v1 v2 v3;go_loop [31] (fun v31=>∃i:Nat,i≤48∧v31= .int .i64 i∧Hid (∀(n:Nat) (p:aa),n <i→xs[n]?=some p→p.Cell≠0→n∈s)) (fun v31=>48- (intOf v31).toNat)
    case atStart=>exact⟨0,by omega,rfl,h_ (fun n p h=>by omega)⟩
    case round=>
     obtain⟨i,hi,rfl,HG⟩:=hrel;by_cases hlt:i <48
     ·obtain⟨⟨pc,pn⟩,g,hp,_,hB,_⟩:=hG.o.2.2 i hlt;obtain⟨bm,om,hA,_,hy⟩:=hV.o.at_ i _ hp;have e0:w3.cell? ⟨bm,om+i*2,none⟩=some (.int .i64 pc):=by simpa using hy 0 _ rfl
      have e1:w3.cell? ⟨bm,om+i*2+1,none⟩=some (.int .i64 pn):=hy 1 _ rfl;rw [hA]at m0;have hS:(i:Int) <48:=by omega
      have HP:=h_ hp;by_cases h0:pc=0
      ·have hR:pn=0:=by
        have h:dz pc pn:=by simpa [dk]using hB
        unfold dz at h;omega
       subst h0;subst hR;clear hy hp hB hA;go_wp2;go_round
       case rel=>exact⟨i+1,by omega,by go_num,h_ (fun n p hn hp2 h2=>by
 rcases Nat.lt_succ_iff_lt_or_eq.1 hn with hn|rfl
 ·exact HG.o n p hn hp2 h2
 ·rw [HP.o]at hp2;injection hp2 with hp2;subst hp2;exact absurd rfl h2)⟩
       case measure=>simp [intOf];omega
      ·have g0:(pc==0)=false:=bF h0;have g1:(pc !=0)=true:=bN h0;by_cases his:i∈s
       ·have hU:=(Oj hP.o i).1 his;have hQ:=h_ his;clear hy hp hB hA h0 his;go_wp2;go_round
        case rel=>exact⟨i+1,by omega,by go_num,h_ (fun n p hn hp2 h2=>by
  rcases Nat.lt_succ_iff_lt_or_eq.1 hn with hn|rfl
  ·exact HG.o n p hn hp2 h2
  ·exact hQ.o)⟩
        case measure=>simp [intOf];omega
       ·have hU:=(Oj hP.o i).2 his;have h9:=h_ (hf.o (fun h=>his (hI.o.1 h i _ HP.o h0)) _ B3.o);clear hy hp hB hA h0 his;go_wp2
        first|exact h9.o|(go_ret2;exact h9.o)
     ·have hS:¬(i:Int) <48:=by omega
      have h9:=h_ (hH.o (hI.o.2 (fun n p hp h0=>HG.o n p (by have h1:=(gS.1 hp).1;have h2:=hG.o.1;omega) hp h0)) _ _ _ _ R3.o B3.o);go_wp2
      first|exact h9.o|(go_ret2;exact h9.o)
   ·have h9:=h_ (hf.o (fun h=>hK (ht.o.1 h).1));have g0:(ndK cs [] (xs.getD 0 ⟨0,0⟩)!=2)=true:=bN hK;clear hd hok hal hf hu hH hh hv hD hr hK ht hG;generalize ndK cs [] (xs.getD 0 ⟨0,0⟩)=K at*;go_enter Tryz.func17,Tryz.ntmps17
    go_wp2_with(first
     |(go_at_call 38;rw [←hC.o];refine hE.o.mono ?_;rintro e w2 ⟨D,q,d,rfl,h6⟩;have B2:=h_ (he.o.trans (h6.mono he.o.size));have ha:=(Ct w2 (.cells #[.slice none 0 0] 30) (.cells #[.int .i64 0] 3) (.cells #[.nilFunc] 109)).2.2.1;have n0:=aj ha 0;have n1:=ak ha 0;simp only [sA,sC]at n0;have SZ:=h_ (It w w2);obtain⟨wz,h8⟩:∃wz,wz=((w2.alloc (.cells #[.slice none 0 0] 30)).alloc (.cells #[.int .i64 0] 3)).alloc (.cells #[.func (.func 39) #[] #[.pointer (some ⟨w.heap.size+1,0,none⟩),.pointer (some ⟨w2.heap.size+1,0,none⟩),.pointer (some ⟨w.heap.size,0,none⟩),.pointer (some ⟨w2.heap.size,0,none⟩),.pointer (some ⟨w2.heap.size+1+1,0,none⟩)]] 109):=⟨_,rfl⟩;rw [←h8]at SZ;have hq:=h_ h8;have z0:=rc0 SZ.o.vbox;have hj:=hx.o _ w2 wz rfl rfl rfl h6 SZ.o;have DW:=h_ (hm.o (lsB w w2) rfl rfl w2 h6);clear h8 h6 ha)
     |(rw [←hq.o];refine(Ix hj rfl).mono ?_;rintro e w3 ⟨rfl,A3,c3,h7,_⟩;obtain⟨gb,o3,f0,f1,hw⟩:=T8 h7 hF.o;have S3:=h_ h7;have R3:=h_ hw;have B3:=h_ (B2.o.trans (h7.it.below.mono B2.o.size));have D3:=h_ (DW.o.at_ h7.it.below);simp only at f0 f1;clear h7 hw))
    have HZ:=h9.o _ B3.o
    first|exact HZ|(go_ret2;exact HZ)
 ·have hT:=h_ (w0y hh.o hal);have h9:=h_ (hf.o (fun h=>hal (Md h)));clear hd hok hal hf hu hh hm;go_enter Tryz.func17,Tryz.ntmps17;go_wp2_with(go_at_call 38;rw [←hC.o];refine hT.o.mono ?_;rintro e w2 ⟨rfl,h6⟩;have B2:=h_ (he.o.trans (h6.mono he.o.size));clear h6);have HZ:=h9.o _ B2.o
  first|exact HZ|(go_ret2;exact HZ)
theorem Ww{g:Nat→Option Int}{i m j:Nat}:∀ {f:Nat} {n:Int},j∈chn g i m f n→i≤j∧j <i+m∧∃x,g j=some x
 |0,_,h=>by simp [chn]at h
 |f+1,n,h=>by
  simp only [chn]at h;cases hf:ff g i m n with
  |none=>rw [hf]at h;simp at h
  |some k=>
   rw [hf]at h;rcases List.mem_cons.1 h with rfl|h
   ·obtain⟨h1,h2,h3⟩:=Jy hf;exact⟨h1,h2,_,h3⟩
   ·exact Ww h
theorem d0s{cs:List ByteArray}{a:Int}{j:Nat}(h:j∈jh cs [] a):2≤j∧j <cs.length∧scO (ar cs [] j)=true:=by
 have h2:j∈sj cs [] a:=by obtain⟨r,e⟩:=G8 (b:=lgB cs []) (sj cs [] a);rw [e];exact List.mem_append_left _ h
 obtain⟨h3,h4,x,h5⟩:=Ww h2;refine⟨h3,by omega,?_⟩;unfold lgN at h5;split at h5
 ·assumption
 ·cases h5
theorem d0w{t:ByteArray}{k:Nat}{b:bz}(h:(scL t)[k]?=some b):k <40∧1≤b.Kind∧b.Kind≤3∧0≤b.Ino∧b.Ino≤47:=by
 unfold scL at h;split at h
 ·by_cases hb:fd (aq t)
  ·rw [(xk hb).2.1]at h;have hk:k < (cy (aq t) (bt (aq t) 1).toNat).length:=(gS.1 h).1;rw [Ym]at hk;have h0:=hb.many;refine⟨by omega,?_⟩;have hm:b∈cy (aq t) (bt (aq t) 1).toNat:=List.mem_of_getElem? h;have hc:=X7.1 ((L7 (aq t) (bt (aq t) 1).toNat).2 (fun i hi=>(hb.all i hi).2)) b hm;obtain⟨h1,h2,h3,h4,_⟩:=Ah hc;exact⟨h1,h2,h3,h4⟩
  ·rw [(Ks hb).2.1]at h;simp at h
 ·simp at h
theorem Db{xs:List aa}{gs:List Int}{k:Nat}{p:aa}(h:jw xs gs)(hr:dk p.Cell p.Nth=true):jw (xs.set k p) gs:=by
 refine⟨by rw [List.length_set];exact h.1,h.2.1,fun i hi=>?_⟩;obtain⟨q,g,e1,e2,e3,e4⟩:=h.2.2 i hi;by_cases hik:k=i
 ·subst hik;exact⟨p,g,List.getElem?_set_self (by rw [h.1];exact hi),e2,hr,e4⟩
 ·exact⟨q,g,by rw [List.getElem?_set_ne hik];exact e1,e2,e3,e4⟩
theorem Uc{xs:List aa}{gs:List Int}{k:Nat}{z:Int}(h:jw xs gs)(h0:0≤z)(h1:z≤2147483647):jw xs (gs.set k z):=by
 refine⟨h.1,by rw [List.length_set];exact h.2.1,fun i hi=>?_⟩;obtain⟨q,g,e1,e2,e3,e4⟩:=h.2.2 i hi;by_cases hik:k=i
 ·subst hik;exact⟨q,z,e1,List.getElem?_set_self (by rw [h.2.1];exact hi),e3,h0,h1⟩
 ·exact⟨q,g,e1,by rw [List.getElem?_set_ne hik];exact e2,e3,e4⟩
section
variable {m:List aa×List Int} {j k n:Nat} {nth:Int} {t:ByteArray}
theorem Te(hj:2≤j)(hj2:j <128)(hk:k <40):dk (j:Int) (k:Int)=true:=yr (by unfold dz;right;omega)
theorem g0m(h:bu m.1 m.2=0)(hj:2≤j)(hj2:j <128)(hk:k <40)(hn:n <48):im j k ⟨2,n,nth,t⟩ m=some (m.1.set n ⟨j,k⟩,m.2)∧bu (m.1.set n ⟨j,k⟩) m.2=0:=by
 have e:jg m.1 m.2 n ⟨j,k⟩=0:=by
  unfold jg;rw [if_neg (fun g=>g h),if_neg];simp only [Te hj hj2 hk];intro h;rcases h with h|h|h|h
  ·omega
  ·omega
  ·cases h
  ·omega
 refine⟨?_,td (Db (p7 h) (Te hj hj2 hk))⟩;unfold im;rw [if_pos rfl,if_pos e];unfold n7 n8;rw [if_pos e,if_pos e,Int.toNat_natCast]
theorem g0p(h:bu m.1 m.2=0)(hn:n <48){p:aa}{g:Int}(hp:m.1[n]?=some p)(hg:m.2[n]?=some g):(p.Cell=0→im j k ⟨3,n,nth,t⟩ m=none)∧(g=2147483647→im j k ⟨3,n,nth,t⟩ m=none)∧(p.Cell≠0→g≠2147483647→im j k ⟨3,n,nth,t⟩ m=some (m.1.set n ⟨0,0⟩,m.2.set n (g+1))∧bu (m.1.set n ⟨0,0⟩) (m.2.set n (g+1))=0):=by
 have e3:im j k ⟨3,n,nth,t⟩ m=if iu m.1 m.2 n=0 then some (nz m.1 m.2 n,o6 m.1 m.2 n)else none:=by unfold im;rw [if_neg (show ¬((3:Int)=2) by decide),if_pos rfl]
 have h1:p.Cell=0→im j k ⟨3,n,nth,t⟩ m=none:=fun h0=>by rw [e3,if_neg];rw [Wk h hn hp h0];decide
 refine⟨h1,fun hg2=>?_,fun h0 hg2=>?_⟩
 ·by_cases h0:p.Cell=0
  ·exact h1 h0
  ·rw [e3,if_neg];rw [Wm h hn hp h0 hg hg2];decide
 ·obtain⟨e,ex,eg⟩:=Wj h hn hp h0 hg hg2;rw [e3,if_pos e,ex,eg];obtain⟨_,g',_,h2,_,b1,b2⟩:=(p7 h).2.2 n hn;rw [hg]at h2;injection h2 with h2;subst h2;exact⟨rfl,td (Uc (Db (p7 h) (by decide)) (by omega) (by omega))⟩
theorem g0q{K I:Int}(h2:K≠2)(h3:K≠3):im j k ⟨K,I,nth,t⟩ m=some m:=by unfold im;rw [if_neg h2,if_neg h3]
end
theorem g0n{cell:Int}{k:Nat}{b:bz}{m m1:List aa×List Int}(h:bu m.1 m.2=0)(hr:im cell k b m=some m1):bu m1.1 m1.2=0:=by
 unfold im at hr;split at hr
 ·split at hr
  ·rename_i hE;injection hr with hr;subst hr;have h0:=hE;unfold jg at h0;rw [if_neg (fun g=>g h)]at h0;split at h0
   ·cases h0
   ·rename_i hq;unfold n7 n8;rw [if_pos hE,if_pos hE];refine td (Db (p7 h) ?_);cases hb:dk (⟨cell,k⟩:aa).Cell (⟨cell,k⟩:aa).Nth with
    |true=>rfl
    |false=>exact absurd (.inr (.inr (.inl hb))) hq
  ·cases hr
 ·split at hr
  ·split at hr
   ·rename_i hE;injection hr with hr;subst hr;have h0:=hE;unfold iu at h0;rw [if_neg (fun g=>g h)]at h0;split at h0
    ·cases h0
    ·rename_i hq;split at h0
     ·cases h0
     ·split at h0
      ·cases h0
      ·rename_i hg;unfold nz o6;rw [if_pos hE,if_pos hE];obtain⟨g,e1,e2,e3⟩:=Uw (p7 h) (k:=b.Ino.toNat) (by omega);have e4:m.2.getD b.Ino.toNat 0=g:=by rw [gD,e1];rfl
       rw [e4]at hg⊢;exact td (Uc (Db (p7 h) (by decide)) (by omega) (by omega))
   ·cases hr
  ·injection hr with hr;subst hr;exact h
theorem Q8{cell:Int}:∀ {L:List bz} {k:Nat} {m m1:List aa×List Int},bu m.1 m.2=0→ft cell k L m=some m1→bu m1.1 m1.2=0
 | [],k,m,m1,h,hr=>by injection hr with hr;subst hr;exact h
 |b::r,k,m,m1,h,hr=>by
  simp only [ft]at hr;cases h1:im cell k b m with
  |none=>rw [h1]at hr;cases hr
  |some m2=>rw [h1]at hr;exact Q8 (g0n h h1) hr
theorem Bw{cs:List ByteArray}:∀ {js:List Nat} {m m1:List aa×List Int},bu m.1 m.2=0→jk cs js m=some m1→bu m1.1 m1.2=0
 | [],m,m1,h,hr=>by injection hr with hr;subst hr;exact h
 |j::r,m,m1,h,hr=>by
  simp only [jk]at hr;cases h1:ft j 0 (scL (ar cs [] j)) m with
  |none=>rw [h1]at hr;cases hr
  |some m2=>rw [h1]at hr;exact Bw (Q8 h h1) hr
end Go.Proofs.YtcldpfhpkbeaiadGreat
