/- A part of the proof of FsMounts. No condition of ours. -/
import Derived.Test.YtcldpfhpkbeaiadGreatFsMounts11
set_option maxRecDepth 20000
set_option maxHeartbeats 2000000
namespace Go.Proofs.YtcldpfhpkbeaiadGreat
section
open Go.RowKit
def Eu(cs:List ByteArray)(ws:List ae)(n k:Int)(q:aa)(w:World)(e:Ending)(w':World):Prop:=
 (km cs ws n k q∧e= .returned (.tuple #[.string (ubB cs ws q.Cell q.Nth).Text,.int .i64 0])∧Below w.heap.size w w')∨
 (¬km cs ws n k q∧e= .returned (.tuple #[.string ⟨#[]⟩,.int .i64 18])∧Below w.heap.size w w')
theorem My(A:Option Addr)(n c:Nat)(cs:List ByteArray)(A':Option Addr)(n' c':Nat)(ws:List ae)(ni k pc pn:Int)(w:World)(r:ab w w.heap.size A n c (fun z=>[.string z]) 1 cs)(r':ab w w.heap.size A' n' c' ae.cells 2 ws)(hws:ws.length≤400):Calls Tryz.prog 44 #[.agg #[.slice A n c,.slice A' n' c'],.int .i64 ni,.int .i64 k,.agg #[.int .i64 pc,.int .i64 pn]] w (Eu cs ws ni k ⟨pc,pn⟩ w):=by
 obtain⟨wa,h8⟩:∃wa,wa=(w.alloc (.cells #[.slice A n c,.slice A' n' c'] 25)).alloc (.cells #[.int .i64 pc,.int .i64 pn] 89):=⟨_,rfl⟩;have h6:Below w.heap.size w wa:=by rw [h8];exact(br.alloc ler _).alloc (by simp) _
 have hc:wa.heap[w.heap.size+1]?=some (.cells #[.int .i64 pc,.int .i64 pn] 89 (0,0)):=by rw [h8];have:=A_ (w.alloc (.cells #[.slice A n c,.slice A' n' c'] 25)) (.cells #[.int .i64 pc,.int .i64 pn] 89);rw [show(w.alloc (.cells #[.slice A n c,.slice A' n' c'] 25)).heap.size=w.heap.size+1 by simp]at this;exact this
 have ha:wa.heap[w.heap.size]?=some (.cells #[.slice A n c,.slice A' n' c'] 25 (0,0)):=by rw [h8];exact(heap_alloc_old _ _ (by simp)).trans (A_ w _)
 have v0:=rc0 ha;have v1:=rc1 ha;have v2:=rc0 hc;have v3:=rc1 hc;have h5:=h_ (N4 A n c cs A' n' c' ws pc pn wa ((r.below h6).more h6.size) ((r'.below h6).more h6.size) hws);unfold s5 at h5;have h9:Hid (¬(ubE cs ws pc pn=0∧(ubB cs ws pc pn).Kind=1∧(ubB cs ws pc pn).Ino=ni∧(ubB cs ws pc pn).Nth=k)→∀w',Below w.heap.size w w'→Eu cs ws ni k ⟨pc,pn⟩ w (.returned (.tuple #[.string ⟨#[]⟩,.int .i64 18])) w'):=fun h w' hb=>.inr ⟨h,rfl,hb⟩
 have hd:Hid ((ubE cs ws pc pn=0∧(ubB cs ws pc pn).Kind=1∧(ubB cs ws pc pn).Ino=ni∧(ubB cs ws pc pn).Nth=k)→∀w',Below w.heap.size w w'→Eu cs ws ni k ⟨pc,pn⟩ w (.returned (.tuple #[.string (ubB cs ws pc pn).Text,.int .i64 0])) w'):=fun h w' hb=>.inl ⟨h,rfl,hb⟩
 have h7:=h_ h8;have h0:=h_ h6;clear r r' h8 h6 ha hc hws;generalize ubE cs ws pc pn=E at*;generalize ubB cs ws pc pn=B at*;obtain⟨bk,bi,bn,bt⟩:=B;simp only at h5 h9 hd;by_cases hE:E=0
 ·subst hE;by_cases h1:bk=1
  ·subst h1;by_cases h2:bi=ni
   ·subst h2;by_cases h3:bn=k
    ·subst h3;have HY:=h_ (hd.o (by simp));go_enter Tryz.func44,Tryz.ntmps44;go_wp2_with(go_at_call 75;rw [←h7.o];refine h5.o.mono ?_;rintro e w1 ⟨rfl,h4⟩;have hm:=A_ w1 (.cells #[.int .i64 1,.int .i64 bi,.int .i64 bn,.string bt] 85);have u3:=rc3 hm;clear hm);go_ret2;exact HY.o _ ((h0.o.trans (h4.mono h0.o.size)).alloc (h0.o.trans (h4.mono h0.o.size)).size _)
    ·have g1:(bn !=k)=true:=bN h3;have HN:=h_ (h9.o (fun h=>h3 h.2.2.2));clear h3;go_enter Tryz.func44,Tryz.ntmps44;go_wp2_with(go_at_call 75;rw [←h7.o];refine h5.o.mono ?_;rintro e w1 ⟨rfl,h4⟩);go_ret2;exact HN.o _ ((h0.o.trans (h4.mono h0.o.size)).alloc (h0.o.trans (h4.mono h0.o.size)).size _)
   ·have g1:(bi !=ni)=true:=bN h2;have HN:=h_ (h9.o (fun h=>h2 h.2.2.1));clear h2;go_enter Tryz.func44,Tryz.ntmps44;go_wp2_with(go_at_call 75;rw [←h7.o];refine h5.o.mono ?_;rintro e w1 ⟨rfl,h4⟩);go_ret2;exact HN.o _ ((h0.o.trans (h4.mono h0.o.size)).alloc (h0.o.trans (h4.mono h0.o.size)).size _)
  ·have g1:(bk !=1)=true:=bN h1;have HN:=h_ (h9.o (fun h=>h1 h.2.1));clear h1;go_enter Tryz.func44,Tryz.ntmps44;go_wp2_with(go_at_call 75;rw [←h7.o];refine h5.o.mono ?_;rintro e w1 ⟨rfl,h4⟩);go_ret2;exact HN.o _ ((h0.o.trans (h4.mono h0.o.size)).alloc (h0.o.trans (h4.mono h0.o.size)).size _)
 ·have g1:(E !=0)=true:=bN hE;have HN:=h_ (h9.o (fun h=>hE h.1));clear hE;go_enter Tryz.func44,Tryz.ntmps44;go_wp2_with(go_at_call 75;rw [←h7.o];refine h5.o.mono ?_;rintro e w1 ⟨rfl,h4⟩);go_ret2;exact HN.o _ ((h0.o.trans (h4.mono h0.o.size)).alloc (h0.o.trans (h4.mono h0.o.size)).size _)
end
section
open Go.RowKit Go.PlainAid
theorem Pr(s:ByteArray)(B:Nat)(W:World)(row:W.heap[B]?=some (.cells #[.string s,.bool false] 151 (0,0)))(_hs:s.size≤1048575):
 Calls Tryz.prog 76 #[.pointer (some ⟨B,0,none⟩),.int .u64 512] W fun e w'=>(gOk s∧e= .returned (.int .i64 (c9 (bt s) s.size))∧w'=W.setCell ⟨B,0,none⟩ (.string (aw s (ck (bt s) s.size).toNat)))∨(¬gOk s∧e= .returned (.int .i64 0)∧w'=W.setCell ⟨B,1,none⟩ (.bool true)):=by
 have c0:=aj row 0
 have c1:=aj row 1
 have f0:=ak row 0
 have f1:=ak row 1
 have HG:=h_ (wh s W)
 have h3:0≤c9 (bt s) s.size:=by unfold c9;split;exact(mx _ _).1;omega
 have h2:c9 (bt s) s.size <18446744073709551616:=by
  unfold c9;split
  ·rename_i h;exact Mu _ _ (bt_nonneg s) h
  ·omega
 by_cases hE:ce (bt s) s.size=0
 ·have hk:=zv hE
  have e1:(ce (bt s) s.size !=0)=false:=by rw [hE];rfl
  by_cases hV:c9 (bt s) s.size≤512
  ·have HP:Hid (gOk s):=⟨hE,hV⟩
   have d1:=dF (show ¬512 <c9 (bt s) s.size by omega)
   clear hE row
   generalize c9 (bt s) s.size=v at*
   generalize ce (bt s) s.size=e at*
   obtain⟨k,h0⟩:=Int.eq_ofNat_of_zero_le (show 0≤ck (bt s) s.size by omega)
   rw [h0]at hk HG⊢
   clear h0
   have h1:k≤s.size:=by omega
   go_enter Tryz.func76,Tryz.ntmps76
   go_wp2_with(go_at_call 87;refine HG.o.mono ?_;rintro e w' ⟨rfl,rfl⟩)
   go_ret
   exact .inl ⟨HP.o,rfl,rfl⟩
  ·have HP:Hid (¬gOk s):=fun h=>hV h.2
   have d1:=dT (show 512 <c9 (bt s) s.size by omega)
   clear hE row hk
   generalize c9 (bt s) s.size=v at*
   generalize ce (bt s) s.size=e at*
   generalize ck (bt s) s.size=k at*
   go_enter Tryz.func76,Tryz.ntmps76
   go_wp2_with(go_at_call 87;refine HG.o.mono ?_;rintro e w' ⟨rfl,rfl⟩)
   go_ret
   exact .inr ⟨HP.o,rfl,rfl⟩
 ·have HP:Hid (¬gOk s):=fun h=>hE h.1
  have e1:(ce (bt s) s.size !=0)=true:=by simpa using hE
  clear hE row
  generalize c9 (bt s) s.size=v at*
  generalize ce (bt s) s.size=e at*
  generalize ck (bt s) s.size=k at*
  go_enter Tryz.func76,Tryz.ntmps76
  go_wp2_with(go_at_call 87;refine HG.o.mono ?_;rintro e w' ⟨rfl,rfl⟩)
  go_ret
  exact .inr ⟨HP.o,rfl,rfl⟩
theorem vw:(Tryz.prog.info? 3).map (fun i=>(i.zero,i.size,i.bytes))=some (some (.int .i64 0),1,8):=by kernel_rfl
theorem r0a(xs:List Int):xs.flatMap (fun z=>[Value.int .i64 z])=xs.map (Value.int .i64):=by
 induction xs with
 |nil=>rfl
 |cons x r ih=>simp [ih]
theorem af.ints{w:World}{base n c:Nat}{A:Option Addr}{xs:List Int}(h:af w base 1 (.slice A n c) n (xs.map (Value.int .i64))):ab w w.heap.size A n c (fun z=>[.int .i64 z]) 1 xs:=by rw [←r0a]at h;exact h.rows (enc:=fun z=>[Value.int .i64 z]) (k:=1) (fun _=>rfl) Nat.one_pos
theorem mf(w:World)(B:Nat):ab w B none 0 0 (fun z=>[.int .i64 z]) 1 ([]:List Int):=⟨rfl,Nat.le_refl _,zl,fun i x h=>by simp at h⟩
theorem Ek(b:Int)(h0:0≤b)(h1:b≤255):bits .and .u8 b 15=b%16:=by
 have h2:∀a:Fin 256,bits .and .u8 (a.val:Int) 15=(a.val:Int)%16:=by decide+kernel
 obtain⟨a,rfl⟩:=Int.eq_ofNat_of_zero_le h0;exact h2 ⟨a,by omega⟩
theorem va{xs:List Int}{j:Nat}{v:Int}:(xs++List.replicate j v).map (Value.int .i64)++(#[Value.int .i64 v]:Array Value).toList=(xs++List.replicate (j+1) v).map (Value.int .i64):=by rw [List.replicate_succ'];simp
structure RrI(s:ByteArray)(k n m p q:Nat)(la:Int):Prop where
 p1:p≤k+m
 p2:k+m≤p
 ps:p≤s.size
 qn:q≤n
 mq:m≤q
 qm:0 <q→0 <m
 len:q=(rrL s k m).length
 last:0 <m→la=bt s (p-1)
 la0:0≤la
 la1:la≤255
 rest:rr s k n (s.size-k) 0=rr s k n (s.size-p) m
theorem RrI.next{s:ByteArray}{k n m p q M:Nat}{la:Int}(h:RrI s k n m p q la)(hp:p <s.size)(hM:bt s p%16+1=M)(hq:q+M≤n)(hq2:q <n)(hbad:¬mu s k m):RrI s k n (m+1) (p+1) (q+M) (bt s p)∧rrL s k (m+1)=rrL s k m++List.replicate M (bt s p/16):=by
 have h2:p=k+m:=by have:=h.p1;have:=h.p2;omega
 have HE:rrL s k (m+1)=rrL s k m++List.replicate M (bt s p/16):=by rw [rrL,←h2,hM];rfl
 have HL:(rrL s k (m+1)).length=q+M:=by rw [HE,List.length_append,List.length_replicate,←h.len]
 have h0:=bt_nonneg s p;have h1:=bt_le s p;refine⟨⟨by omega,by omega,by omega,hq,by have:=h.mq;omega,fun _=>by omega,HL.symm,fun _=>by simp,h0,h1,?_⟩,HE⟩;rw [h.rest,show s.size-p=(s.size- (p+1))+1 by omega,e0s (by rw [←h.len];omega) (by rw [HL];rintro(hb|hb);exact hbad hb;omega)]
theorem RrI.form{s:ByteArray}{k n m p q M:Nat}{la:Int}(h:RrI s k n m p q la)(hp:p <s.size)(hM:bt s p%16+1=M)(hq2:q <n)(hb:mu s k m∨n <q+M):rr s k n (s.size-k) 0=(4,m):=by
 have h0:p=k+m:=by have:=h.p1;have:=h.p2;omega
 have HL:(rrL s k (m+1)).length=q+M:=by rw [rrL,←h0,hM,List.length_append,List.length_replicate,←h.len];rfl
 rw [h.rest,show s.size-p=(s.size- (p+1))+1 by omega,e0t (by rw [←h.len];omega) (by rw [HL];exact hb)]
theorem RrI.short{s:ByteArray}{k n m p q:Nat}{la:Int}(h:RrI s k n m p q la)(hp:p=s.size)(hq2:q <n):rr s k n (s.size-k) 0=(3,m):=by rw [h.rest,show s.size-p=0 by omega,e0r (by rw [←h.len];omega)]
theorem RrI.done{s:ByteArray}{k n m p q:Nat}{la:Int}(h:RrI s k n m p q la)(hq2:q=n):rr s k n (s.size-k) 0=(0,m):=by rw [h.rest,e0u (by rw [←h.len,hq2])]
theorem RrI.bad{s:ByteArray}{k n m p q:Nat}{la:Int}(h:RrI s k n m p q la):mu s k m↔0 <m∧bt s p/16=la/16∧la%16 <15:=by
 have h0:p=k+m:=by have:=h.p1;have:=h.p2;omega
 unfold mu;rw [←h0];constructor
 ·rintro⟨a,b,c⟩;rw [h.last a];exact⟨a,b,c⟩
 ·rintro⟨a,b,c⟩;rw [h.last a]at b c;exact⟨a,b,c⟩
theorem RrI.cases{s:ByteArray}{k n m p q:Nat}{la:Int}(h:RrI s k n m p q la)(hbad:¬mu s k m):q=0∨(0 <q∧(bt s p/16==la/16)=false)∨(0 <q∧(bt s p/16==la/16)=true∧(la%16 !=15)=false):=by
 by_cases h0:0 <q
 ·by_cases h1:bt s p/16=la/16
  ·right;right;refine⟨h0,beq_iff_eq.2 h1,?_⟩;have:¬la%16 <15:=fun hh=>hbad (h.bad.2 ⟨h.qm h0,h1,hh⟩)
   rw [bne_eq_false_iff_eq];have:=h.la0;omega
  ·right;left;exact⟨h0,bF h1⟩
 ·left;omega
theorem e0p(s:ByteArray)(w:World)(hs63:s.size≤9223372036854775807)(h:ce (bt s) s.size≠0):Calls Tryz.prog 136 #[.string s] w fun e w'=>∃A q c,e= .returned (.tuple #[.slice A q c,.int .i64 (ct s),.int .i64 (rrE s)])∧ab w' w'.heap.size A q c (fun z=>[.int .i64 z]) 1 (rrX s)∧Below w.heap.size w w':=by have H:=h_ (wh s w);have F:=h_ (Gm h);have h0:(ce (bt s) s.size !=0)=true:=bN h;generalize ce (bt s) s.size=ee at*;generalize c9 (bt s) s.size=vv at*;generalize ck (bt s) s.size=nn at*;clear h hs63;go_enter Tryz.func136,Tryz.ntmps136;go_wp2_with(go_at_call 87;refine H.o.mono ?_;rintro e w' ⟨rfl,rfl⟩);go_ret3;exact⟨none,0,0,by rw [F.o.1,F.o.2.1];rfl,by rw [F.o.2.2];exact mf _ _,br⟩
theorem e0q(s:ByteArray)(w:World)(hs63:s.size≤9223372036854775807)(h:ce (bt s) s.size=0)(h2:320 <c9 (bt s) s.size):Calls Tryz.prog 136 #[.string s] w fun e w'=>∃A q c,e= .returned (.tuple #[.slice A q c,.int .i64 (ct s),.int .i64 (rrE s)])∧ab w' w'.heap.size A q c (fun z=>[.int .i64 z]) 1 (rrX s)∧Below w.heap.size w w':=by have H:=h_ (wh s w);have F:=h_ (Pe h h2);rw [h]at H;generalize ce (bt s) s.size=ee at*;generalize c9 (bt s) s.size=vv at*;generalize ck (bt s) s.size=nn at*;clear h hs63;go_enter Tryz.func136,Tryz.ntmps136;go_wp2_with(go_at_call 87;refine H.o.mono ?_;rintro e w' ⟨rfl,rfl⟩);go_ret3;exact⟨none,0,0,by rw [F.o.1,F.o.2.1];rfl,by rw [F.o.2.2];exact mf _ _,br⟩
theorem e0n(s:ByteArray)(w:World)(hs63:s.size≤9223372036854775807)(h:ce (bt s) s.size=0)(k n:Nat)(hk:ck (bt s) s.size=k)(hn:c9 (bt s) s.size=n)(hks:k≤s.size)(hn2:n≤320):Calls Tryz.prog 136 #[.string s] w fun e w'=>∃A q c,e= .returned (.tuple #[.slice A q c,.int .i64 (ct s),.int .i64 (rrE s)])∧ab w' w'.heap.size A q c (fun z=>[.int .i64 z]) 1 (rrX s)∧Below w.heap.size w w':=by
 have H:=h_ (wh s w);rw [h,hk,hn]at H;have h2:¬320 <c9 (bt s) s.size:=by rw [hn];omega
 have hd:rrR s=rr s k n (s.size-k) 0:=by unfold rrR;rw [hk,hn];simp
 have hp:=h_ (fun(m:Nat) (e:rr s k n (s.size-k) 0=(0,m))=>Pc h h2 (hd.trans e));have ha:=h_ (fun(e:Int) (m:Nat) (he:e≠0) (e1:rr s k n (s.size-k) 0=(e,m))=>Pf h h2 he (hd.trans e1));simp only [hk,Int.toNat_natCast]at hp;have hG:=get_bt s;clear h h2 hd;generalize c9 (bt s) s.size=vv at*;generalize ck (bt s) s.size=nn at*;clear hk hn;go_enter Tryz.func136,Tryz.ntmps136;go_wp2_with(go_at_call 87;refine H.o.mono ?_;rintro e w' ⟨rfl,rfl⟩);clear H;go_loopw [6,8,9] (fun v6 v8 v9 wr=>∃(m p q:Nat) (la:Int),RrI s k n m p q la∧v6= .int .i64 p∧v9= .int .u8 la∧af wr w.heap.size 1 v8 q ((rrL s k m).map (Value.int .i64))∧Below w.heap.size w wr) (fun v6 _ _ _=>s.size- (intOf v6).toNat)
 case atStart=>exact⟨0,k,0,255,⟨by omega,by omega,hks,by omega,by omega,fun h=>by omega,rfl,fun h=>by omega,by omega,by omega,rfl⟩,rfl,rfl,af.nil _ _ _,br⟩
 case round=>
  obtain⟨m,p,q,la,hI,rfl,rfl,h8,hb⟩:=hrel;obtain⟨AO,cO,rfl⟩:=h8.form;have hF:=hb.size;have hz:=hI.ps;have hB:=hI.qn;have HI:=h_ hI;clear hI;by_cases hqlt:q <n
  ·have hw:(q:Int) < (n:Int):=by omega
   by_cases hpe:p=s.size
   ·have hs:((p:Int)==(s.size:Int))=true:=by rw [beq_iff_eq];omega
    have F:=h_ (ha.o 3 m (by omega) (HI.o.short hpe hqlt));clear hpe;go_wp2;go_ret3;exact⟨none,0,0,by rw [F.o.1,F.o.2.1];rfl,by rw [F.o.2.2];exact mf _ _,hb⟩
   ·have hs:((p:Int)==(s.size:Int))=false:=by rw [beq_eq_false_iff_ne];omega
    have hc:p <s.size:=by omega
    have hx:(p:Int) < (s.size:Int):=by omega
    have ht:=bt_nonneg s p;have hr:=bt_le s p;obtain⟨M,hM⟩:=Int.eq_ofNat_of_zero_le (show 0≤bt s p%16+1 by omega);have hE:1≤M∧M≤16:=by omega
    have a1:=Ek (bt s p) ht hr;have a2:=Ek la HI.o.la0 HI.o.la1;have i1:(p:Int)+1≤(s.size:Int):=by omega
    have c1:wrap64 (bt s p%16)=bt s p%16:=by unfold wrap64;omega
    have c2:wrap64 (bt s p%16+1)=bt s p%16+1:=by unfold wrap64;omega
    have c5:wrap64 (bt s p/16)=bt s p/16:=by unfold wrap64;omega
    have C3:Hid (IntKind.i64.wrap ((q:Int)+(bt s p%16+1))=(q:Int)+(bt s p%16+1)):=by unfold Hid;rw [IntKind.wrap_i64];omega
    have h4:=h_ hM;clear hM;by_cases hover:n <q+M
    ·have F:=h_ (ha.o 4 m (by omega) (HI.o.form hc h4.o hqlt (.inr hover)));have c4:(n:Int) < (q:Int)+(bt s p%16+1):=by rw [h4.o];omega
     have c3:=C3.o;clear C3;go_wp2;go_ret3;exact⟨none,0,0,by rw [F.o.1,F.o.2.1];rfl,by rw [F.o.2.2];exact mf _ _,hb⟩
    ·have c4:(q:Int)+(bt s p%16+1)≤(n:Int):=by rw [h4.o];omega
     by_cases hbad:mu s k m
     ·have F:=h_ (ha.o 4 m (by omega) (HI.o.form hc h4.o hqlt (.inl hbad)));obtain⟨b1,b2,b3⟩:=HI.o.bad.1 hbad;have hC:=HI.o.mq;have b0:(0:Int) < (q:Int):=by omega
      have hA:(bt s p/16==la/16)=true:=beq_iff_eq.2 b2;have b4:(la%16 !=15)=true:=by rw [bne_iff_ne];omega
      have c3:=C3.o;clear C3 hbad b2;go_wp2;go_ret3;exact⟨none,0,0,by rw [F.o.1,F.o.2.1];rfl,by rw [F.o.2.2];exact mf _ _,hb⟩
     ·have hf:=HI.o.next hc h4.o (by omega) hqlt hbad;have HN:=h_ hf.1;have HX:=h_ hf.2;have HC:=h_ (HI.o.cases hbad);clear hf hbad;rcases HC.o with hq0|⟨hq0,h1⟩|⟨hq0,h1,h2⟩
      ·have hg:(q:Int)≤0:=by omega
       have hy:¬(0:Int) < (q:Int):=by omega
       have c3:=C3.o;clear C3 hq0;go_wp2;go_loopw [8,66] (fun v8 v66 wi=>∃j:Nat,j≤M∧v66= .int .i64 j∧af wi w.heap.size 1 v8 (q+j) ((rrL s k m++List.replicate j (bt s p/16)).map (Value.int .i64))∧Below w.heap.size w wi) (fun _ v66 _=>M- (intOf v66).toNat)
       case atStart=>exact⟨0,zl,rfl,by simpa using h8,hb⟩
       case round=>
        obtain⟨j,hj,rfl,h0,h3⟩:=hrel;obtain⟨AI,cI,rfl⟩:=h0.form;have h6:=h3.size;by_cases hjl:j <M
        ·have h7:(j:Int) <bt s p%16+1:=by rw [h4.o];omega
         go_wp2_with(at_builtin;refine dx rfl rfl Tryz.underlying41 vw rfl (Nat.le_refl 1) h0 rfl h6 rfl rfl rfl ?_ ?_ ?_ ?_;simp [Value.oneCell'];(unfold maxLen;omega);omega;intro A3 c3 w3 h5 h9 hq);go_roundw
         case rel=>exact⟨j+1,by omega,by go_num,by rw [va]at h5;exact h5,h9.below ler h3⟩
         case measure=>simp [intOf];omega
        ·have h7:bt s p%16+1≤(j:Int):=by rw [h4.o];omega
         have hh:¬(j:Int) <bt s p%16+1:=by omega
         obtain rfl:j=M:=by omega
         rw [←HX.o]at h0;go_wp2;go_roundw
         case rel=>exact⟨m+1,p+1,q+j,bt s p,HN.o,by go_num,rfl,h0,h3⟩
         case measure=>simp [intOf];omega
      ·have hg:(0:Int) < (q:Int):=by omega
       have c3:=C3.o;clear C3;go_wp2;go_loopw [8,66] (fun v8 v66 wi=>∃j:Nat,j≤M∧v66= .int .i64 j∧af wi w.heap.size 1 v8 (q+j) ((rrL s k m++List.replicate j (bt s p/16)).map (Value.int .i64))∧Below w.heap.size w wi) (fun _ v66 _=>M- (intOf v66).toNat)
       case atStart=>exact⟨0,zl,rfl,by simpa using h8,hb⟩
       case round=>
        obtain⟨j,hj,rfl,h0,h3⟩:=hrel;obtain⟨AI,cI,rfl⟩:=h0.form;have h6:=h3.size;by_cases hjl:j <M
        ·have h7:(j:Int) <bt s p%16+1:=by rw [h4.o];omega
         go_wp2_with(at_builtin;refine dx rfl rfl Tryz.underlying41 vw rfl (Nat.le_refl 1) h0 rfl h6 rfl rfl rfl ?_ ?_ ?_ ?_;simp [Value.oneCell'];(unfold maxLen;omega);omega;intro A3 c3 w3 h5 h9 hq);go_roundw
         case rel=>exact⟨j+1,by omega,by go_num,by rw [va]at h5;exact h5,h9.below ler h3⟩
         case measure=>simp [intOf];omega
        ·have h7:bt s p%16+1≤(j:Int):=by rw [h4.o];omega
         have hh:¬(j:Int) <bt s p%16+1:=by omega
         obtain rfl:j=M:=by omega
         rw [←HX.o]at h0;go_wp2;go_roundw
         case rel=>exact⟨m+1,p+1,q+j,bt s p,HN.o,by go_num,rfl,h0,h3⟩
         case measure=>simp [intOf];omega
      ·have hg:(0:Int) < (q:Int):=by omega
       have c3:=C3.o;clear C3;go_wp2;go_loopw [8,66] (fun v8 v66 wi=>∃j:Nat,j≤M∧v66= .int .i64 j∧af wi w.heap.size 1 v8 (q+j) ((rrL s k m++List.replicate j (bt s p/16)).map (Value.int .i64))∧Below w.heap.size w wi) (fun _ v66 _=>M- (intOf v66).toNat)
       case atStart=>exact⟨0,zl,rfl,by simpa using h8,hb⟩
       case round=>
        obtain⟨j,hj,rfl,h0,h3⟩:=hrel;obtain⟨AI,cI,rfl⟩:=h0.form;have h6:=h3.size;by_cases hjl:j <M
        ·have h7:(j:Int) <bt s p%16+1:=by rw [h4.o];omega
         go_wp2_with(at_builtin;refine dx rfl rfl Tryz.underlying41 vw rfl (Nat.le_refl 1) h0 rfl h6 rfl rfl rfl ?_ ?_ ?_ ?_;simp [Value.oneCell'];(unfold maxLen;omega);omega;intro A3 c3 w3 h5 h9 hq);go_roundw
         case rel=>exact⟨j+1,by omega,by go_num,by rw [va]at h5;exact h5,h9.below ler h3⟩
         case measure=>simp [intOf];omega
        ·have h7:bt s p%16+1≤(j:Int):=by rw [h4.o];omega
         have hh:¬(j:Int) <bt s p%16+1:=by omega
         obtain rfl:j=M:=by omega
         rw [←HX.o]at h0;go_wp2;go_roundw
         case rel=>exact⟨m+1,p+1,q+j,bt s p,HN.o,by go_num,rfl,h0,h3⟩
         case measure=>simp [intOf];omega
  ·have hm:q=n:=by omega
   have F:=h_ (hp.o m (HI.o.done hm));have hD:(n:Int)≤(q:Int):=by omega
   have hv:¬(q:Int) < (n:Int):=by omega
   clear hm;have hu:Hid ((p:Int)=(k:Int)+(m:Int)):=by have:=HI.o.p1;have:=HI.o.p2;simp only [Hid];omega
   go_wp2;go_ret3;exact⟨AO,q,cO,by rw [F.o.1,F.o.2.1,←hu.o];rfl,by rw [F.o.2.2];exact h8.ints,hb⟩
theorem Pb(s:ByteArray)(w:World)(hs63:s.size≤9223372036854775807):Calls Tryz.prog 136 #[.string s] w fun e w'=>∃A q c,e= .returned (.tuple #[.slice A q c,.int .i64 (ct s),.int .i64 (rrE s)])∧ab w' w'.heap.size A q c (fun z=>[.int .i64 z]) 1 (rrX s)∧Below w.heap.size w w':=by
 by_cases h:ce (bt s) s.size=0
 ·by_cases h2:320 <c9 (bt s) s.size
  ·exact e0q s w hs63 h h2
  ·have hg:=zv h;obtain⟨k,hk⟩:=Int.eq_ofNat_of_zero_le (show 0≤ck (bt s) s.size by omega);have hv:0≤c9 (bt s) s.size:=by unfold c9;rw [if_pos h];exact(mx _ _).1
   obtain⟨n,hn⟩:=Int.eq_ofNat_of_zero_le hv;exact e0n s w hs63 h k n hk hn (by omega) (by omega)
 ·exact e0p s w hs63 h
theorem e0j(s:ByteArray)(w:World)(hs63:s.size≤9223372036854775807)(h:ce (bt s) s.size≠0):Calls Tryz.prog 123 #[.string s] w fun e w'=>∃A q c,e= .returned (.tuple #[.slice A q c,.int .i64 (ct s),.int .i64 (rrE s)])∧ab w' w'.heap.size A q c (fun z=>[.int .i64 z]) 1 (rrX s)∧Below w.heap.size w w':=by have H:=h_ (ru s w hs63);have F:=h_ (Gm h);have h0:(ce (bt s) s.size !=0)=true:=bN h;generalize ce (bt s) s.size=ee at*;generalize c9 (bt s) s.size=vv at*;generalize ck (bt s) s.size=nn at*;clear h hs63;go_enter Tryz.func123,Tryz.ntmps123;go_wp2_with(go_at_call 100;refine H.o.mono ?_;rintro e w' ⟨rfl,rfl⟩);go_ret3;exact⟨none,0,0,by rw [F.o.1,F.o.2.1];rfl,by rw [F.o.2.2];exact mf _ _,br⟩
theorem e0k(s:ByteArray)(w:World)(hs63:s.size≤9223372036854775807)(h:ce (bt s) s.size=0)(h2:320 <c9 (bt s) s.size):Calls Tryz.prog 123 #[.string s] w fun e w'=>∃A q c,e= .returned (.tuple #[.slice A q c,.int .i64 (ct s),.int .i64 (rrE s)])∧ab w' w'.heap.size A q c (fun z=>[.int .i64 z]) 1 (rrX s)∧Below w.heap.size w w':=by have H:=h_ (ru s w hs63);have F:=h_ (Pe h h2);rw [h]at H;generalize ce (bt s) s.size=ee at*;generalize c9 (bt s) s.size=vv at*;generalize ck (bt s) s.size=nn at*;clear h hs63;go_enter Tryz.func123,Tryz.ntmps123;go_wp2_with(go_at_call 100;refine H.o.mono ?_;rintro e w' ⟨rfl,rfl⟩);go_ret3;exact⟨none,0,0,by rw [F.o.1,F.o.2.1];rfl,by rw [F.o.2.2];exact mf _ _,br⟩
theorem e0h(s:ByteArray)(w:World)(hs63:s.size≤9223372036854775807)(h:ce (bt s) s.size=0)(k n:Nat)(hk:ck (bt s) s.size=k)(hn:c9 (bt s) s.size=n)(hks:k≤s.size)(hn2:n≤320):Calls Tryz.prog 123 #[.string s] w fun e w'=>∃A q c,e= .returned (.tuple #[.slice A q c,.int .i64 (ct s),.int .i64 (rrE s)])∧ab w' w'.heap.size A q c (fun z=>[.int .i64 z]) 1 (rrX s)∧Below w.heap.size w w':=by
 have H:=h_ (ru s w hs63);rw [h,hk,hn]at H;have h2:¬320 <c9 (bt s) s.size:=by rw [hn];omega
 have hm:rrR s=rr s k n (s.size-k) 0:=by unfold rrR;rw [hk,hn];simp
 have hs:=h_ (fun(m:Nat) (e:rr s k n (s.size-k) 0=(0,m))=>Pc h h2 (hm.trans e));have h8:=h_ (fun(e:Int) (m:Nat) (he:e≠0) (e1:rr s k n (s.size-k) 0=(e,m))=>Pf h h2 he (hm.trans e1));simp only [hk,Int.toNat_natCast]at hs;have hN:=get_bt s;clear h h2 hm;generalize c9 (bt s) s.size=vv at*;generalize ck (bt s) s.size=nn at*;clear hk hn;go_enter Tryz.func123,Tryz.ntmps123;go_wp2_with(go_at_call 100;refine H.o.mono ?_;rintro e w' ⟨rfl,rfl⟩);clear H;go_loopw [8,9] (fun v8 v9 wr=>∃(m p q:Nat) (la:Int),RrI s k n m p q la∧v9= .int .i64 p∧af wr w.heap.size 1 v8 q ((rrL s k m).map (Value.int .i64))∧Below w.heap.size w wr) (fun _ v9 _=>s.size- (intOf v9).toNat)
 case atStart=>exact⟨0,k,0,255,⟨by omega,by omega,hks,by omega,by omega,fun h=>by omega,rfl,fun h=>by omega,by omega,by omega,rfl⟩,rfl,af.nil _ _ _,br⟩
 case round=>
  obtain⟨m,p,q,la,hI,rfl,hd,hb⟩:=hrel;obtain⟨AO,cO,rfl⟩:=hd.form;have hJ:=hb.size;have hE:=hI.ps;have hF:=hI.qn;have HI:=h_ hI;clear hI;by_cases hqlt:q <n
  ·have hB:((q:Int)==(n:Int))=false:=by rw [beq_eq_false_iff_ne];omega
   by_cases hpe:p=s.size
   ·have hz:((p:Int)==(s.size:Int))=true:=by rw [beq_iff_eq];omega
    have F:=h_ (h8.o 3 m (by omega) (HI.o.short hpe hqlt));clear hpe;go_wp2;go_ret3;exact⟨none,0,0,by rw [F.o.1,F.o.2.1];rfl,by rw [F.o.2.2];exact mf _ _,hb⟩
   ·have hz:((p:Int)==(s.size:Int))=false:=by rw [beq_eq_false_iff_ne];omega
    have h7:p <s.size:=by omega
    have hD:(p:Int) < (s.size:Int):=by omega
    have hu:=bt_nonneg s p;have hx:=bt_le s p;obtain⟨M,hM⟩:=Int.eq_ofNat_of_zero_le (show 0≤bt s p%16+1 by omega);have hH:1≤M∧M≤16:=by omega
    have a1:=Ek (bt s p) hu hx;have a2:=Ek la HI.o.la0 HI.o.la1;have i1:(p:Int)+1≤(s.size:Int):=by omega
    have c1:wrap64 (bt s p%16)=bt s p%16:=by unfold wrap64;omega
    have c2:wrap64 (bt s p%16+1)=bt s p%16+1:=by unfold wrap64;omega
    have c5:wrap64 (bt s p/16)=bt s p/16:=by unfold wrap64;omega
    have C3:Hid (IntKind.i64.wrap ((q:Int)+(bt s p%16+1))=(q:Int)+(bt s p%16+1)):=by unfold Hid;rw [IntKind.wrap_i64];omega
    have h4:=h_ hM;clear hM;clear a1 a2 C3;by_cases hm0:0 <m
    ·have hv:(k:Int) < (p:Int):=by have:=HI.o.p2;omega
     have hp:=HI.o.last hm0;have j1:(0:Int)≤(p:Int)-1:=by have:=HI.o.p2;omega
     have j2:((p:Int)-1).toNat=p-1:=by omega
     have j3:IntKind.i64.wrap ((p:Int)-1)=(p:Int)-1:=by rw [IntKind.wrap_i64];omega
     have j4:(p:Int)-1 < (s.size:Int):=by omega
     have j5:p-1 <s.size:=by omega
     have hw:=bt_nonneg s (p-1);have hP:=bt_le s (p-1);have d1:(bt s p).tdiv 16=bt s p/16:=Int.tdiv_eq_ediv_of_nonneg hu;have d2:IntKind.u8.wrap (bt s p/16)=bt s p/16:=by rw [IntKind.wrap_u8];omega
     have d3:(bt s (p-1)).tdiv 16=bt s (p-1)/16:=Int.tdiv_eq_ediv_of_nonneg hw;have d4:IntKind.u8.wrap (bt s (p-1)/16)=bt s (p-1)/16:=by rw [IntKind.wrap_u8];omega
     have d5:(bt s (p-1)).tmod 16=bt s (p-1)%16:=Int.tmod_eq_emod_of_nonneg hw;have d6:IntKind.u8.wrap (bt s (p-1)%16)=bt s (p-1)%16:=by rw [IntKind.wrap_u8];omega
     have k1:(1:Int)≤(p:Int):=by omega
     have k2:1≤p:=by omega
     have k3:0 <p:=by omega
     have k4:k <p:=by omega
     have HL:=h_ hp;clear hp;by_cases h1:bt s (p-1)/16=bt s p/16
     ·have hA:(bt s (p-1)/16==bt s p/16)=true:=beq_iff_eq.2 h1;by_cases h2:bt s (p-1)%16 <15
      ·have F:=h_ (h8.o 4 m (by omega) (HI.o.form h7 h4.o hqlt (.inl (HI.o.bad.2 ⟨hm0,by rw [HL.o];omega,by rw [HL.o];exact h2⟩))));have hy:decide (bt s (p-1)%16 <15)=true:=dT h2;clear h1;go_wp2;go_quiet(fail);go_wp2;go_ret3;exact⟨none,0,0,by rw [F.o.1,F.o.2.1];rfl,by rw [F.o.2.2];exact mf _ _,below_drewN hb _⟩
      ·have ha:Hid (¬mu s k m):=fun hh=>by have:=(HI.o.bad.1 hh).2.2;rw [HL.o]at this;exact h2 this
       have hy:decide (bt s (p-1)%16 <15)=false:=dF h2;clear h1;go_wp2;go_quiet(fail);go_wp2;go_loopw [8,64] (fun v8 v64 wi=>∃j:Nat,j≤M∧v64= .int .i64 j∧af wi w.heap.size 1 v8 (q+j) ((rrL s k m++List.replicate j (bt s p/16)).map (Value.int .i64))∧Below w.heap.size w wi) (fun _ v64 _=>M- (intOf v64).toNat)
       case atStart=>exact⟨0,zl,rfl,by simpa using hd.drewN nq,below_drewN hb _⟩
       case round=>
        obtain⟨j,hj,rfl,h0,h3⟩:=hrel;obtain⟨AI,cI,rfl⟩:=h0.form;have h9:=h3.size;by_cases hjl:j <M
        ·have hc:(j:Int) <bt s p%16+1:=by rw [h4.o];omega
         go_wp2_with(at_builtin;refine dx rfl rfl Tryz.underlying41 vw rfl (Nat.le_refl 1) h0 rfl h9 rfl rfl rfl ?_ ?_ ?_ ?_;simp [Value.oneCell'];(unfold maxLen;omega);omega;intro A3 c3 w3 h6 hg ht);go_roundw
         case rel=>exact⟨j+1,by omega,by go_num,by rw [va]at h6;exact h6,hg.below ler h3⟩
         case measure=>simp [intOf];omega
        ·have hc:bt s p%16+1≤(j:Int):=by rw [h4.o];omega
         have hq:¬(j:Int) <bt s p%16+1:=by omega
         obtain rfl:j=M:=by omega
         by_cases hover:n <q+j
         ·have F:=h_ (h8.o 4 m (by omega) (HI.o.form h7 h4.o hqlt (.inr hover)));have c4:(n:Int) < ((q+j:Nat):Int):=by omega
          have hf:(n:Int) < (q:Int)+(j:Int):=by omega
          go_wp2;go_ret3;exact⟨none,0,0,by rw [F.o.1,F.o.2.1];rfl,by rw [F.o.2.2];exact mf _ _,h3⟩
         ·have h5:=HI.o.next h7 h4.o (by omega) hqlt ha.o;have HN:=h_ h5.1;have HX:=h_ h5.2;clear h5;have c4:((q+j:Nat):Int)≤(n:Int):=by omega
          have hf:(q:Int)+(j:Int)≤(n:Int):=by omega
          rw [←HX.o]at h0;go_wp2;go_roundw
          case rel=>exact⟨m+1,p+1,q+j,bt s p,HN.o,by go_num,h0,h3⟩
          case measure=>simp [intOf];omega
     ·have ha:Hid (¬mu s k m):=fun hh=>by have:=(HI.o.bad.1 hh).2.1;rw [HL.o]at this;exact h1 this.symm
      have hA:(bt s (p-1)/16==bt s p/16)=false:=bF h1;go_wp2;go_quiet(fail);go_wp2;go_loopw [8,64] (fun v8 v64 wi=>∃j:Nat,j≤M∧v64= .int .i64 j∧af wi w.heap.size 1 v8 (q+j) ((rrL s k m++List.replicate j (bt s p/16)).map (Value.int .i64))∧Below w.heap.size w wi) (fun _ v64 _=>M- (intOf v64).toNat)
      case atStart=>exact⟨0,zl,rfl,by simpa using hd.drewN nq,below_drewN hb _⟩
      case round=>
       obtain⟨j,hj,rfl,h0,h3⟩:=hrel;obtain⟨AI,cI,rfl⟩:=h0.form;have h9:=h3.size;by_cases hjl:j <M
       ·have hc:(j:Int) <bt s p%16+1:=by rw [h4.o];omega
        go_wp2_with(at_builtin;refine dx rfl rfl Tryz.underlying41 vw rfl (Nat.le_refl 1) h0 rfl h9 rfl rfl rfl ?_ ?_ ?_ ?_;simp [Value.oneCell'];(unfold maxLen;omega);omega;intro A3 c3 w3 h6 hg ht);go_roundw
        case rel=>exact⟨j+1,by omega,by go_num,by rw [va]at h6;exact h6,hg.below ler h3⟩
        case measure=>simp [intOf];omega
       ·have hc:bt s p%16+1≤(j:Int):=by rw [h4.o];omega
        have hq:¬(j:Int) <bt s p%16+1:=by omega
        obtain rfl:j=M:=by omega
        by_cases hover:n <q+j
        ·have F:=h_ (h8.o 4 m (by omega) (HI.o.form h7 h4.o hqlt (.inr hover)));have c4:(n:Int) < ((q+j:Nat):Int):=by omega
         have hf:(n:Int) < (q:Int)+(j:Int):=by omega
         go_wp2;go_ret3;exact⟨none,0,0,by rw [F.o.1,F.o.2.1];rfl,by rw [F.o.2.2];exact mf _ _,h3⟩
        ·have h5:=HI.o.next h7 h4.o (by omega) hqlt ha.o;have HN:=h_ h5.1;have HX:=h_ h5.2;clear h5;have c4:((q+j:Nat):Int)≤(n:Int):=by omega
         have hf:(q:Int)+(j:Int)≤(n:Int):=by omega
         rw [←HX.o]at h0;go_wp2;go_roundw
         case rel=>exact⟨m+1,p+1,q+j,bt s p,HN.o,by go_num,h0,h3⟩
         case measure=>simp [intOf];omega
    ·have ha:Hid (¬mu s k m):=fun hh=>hm0 hh.1
     have hv:¬(k:Int) < (p:Int):=by have:=HI.o.p1;omega
     have hG:(p:Int)≤(k:Int):=by omega
     have hL:decide ((k:Int) < (p:Int))=false:=dF hv;have hK:decide (k <p)=false:=dF (by omega);go_wp2;go_quiet(fail);go_wp2;go_loopw [8,64] (fun v8 v64 wi=>∃j:Nat,j≤M∧v64= .int .i64 j∧af wi w.heap.size 1 v8 (q+j) ((rrL s k m++List.replicate j (bt s p/16)).map (Value.int .i64))∧Below w.heap.size w wi) (fun _ v64 _=>M- (intOf v64).toNat)
     case atStart=>exact⟨0,zl,rfl,by simpa using hd.drewN nq,below_drewN hb _⟩
     case round=>
      obtain⟨j,hj,rfl,h0,h3⟩:=hrel;obtain⟨AI,cI,rfl⟩:=h0.form;have h9:=h3.size;by_cases hjl:j <M
      ·have hc:(j:Int) <bt s p%16+1:=by rw [h4.o];omega
       go_wp2_with(at_builtin;refine dx rfl rfl Tryz.underlying41 vw rfl (Nat.le_refl 1) h0 rfl h9 rfl rfl rfl ?_ ?_ ?_ ?_;simp [Value.oneCell'];(unfold maxLen;omega);omega;intro A3 c3 w3 h6 hg ht);go_roundw
       case rel=>exact⟨j+1,by omega,by go_num,by rw [va]at h6;exact h6,hg.below ler h3⟩
       case measure=>simp [intOf];omega
      ·have hc:bt s p%16+1≤(j:Int):=by rw [h4.o];omega
       have hq:¬(j:Int) <bt s p%16+1:=by omega
       obtain rfl:j=M:=by omega
       by_cases hover:n <q+j
       ·have F:=h_ (h8.o 4 m (by omega) (HI.o.form h7 h4.o hqlt (.inr hover)));have c4:(n:Int) < ((q+j:Nat):Int):=by omega
        have hf:(n:Int) < (q:Int)+(j:Int):=by omega
        go_wp2;go_ret3;exact⟨none,0,0,by rw [F.o.1,F.o.2.1];rfl,by rw [F.o.2.2];exact mf _ _,h3⟩
       ·have h5:=HI.o.next h7 h4.o (by omega) hqlt ha.o;have HN:=h_ h5.1;have HX:=h_ h5.2;clear h5;have c4:((q+j:Nat):Int)≤(n:Int):=by omega
        have hf:(q:Int)+(j:Int)≤(n:Int):=by omega
        rw [←HX.o]at h0;go_wp2;go_roundw
        case rel=>exact⟨m+1,p+1,q+j,bt s p,HN.o,by go_num,h0,h3⟩
        case measure=>simp [intOf];omega
  ·have hr:q=n:=by omega
   have F:=h_ (hs.o m (HI.o.done hr));have hB:((q:Int)==(n:Int))=true:=by rw [beq_iff_eq];omega
   clear hr;have hC:Hid ((p:Int)=(k:Int)+(m:Int)):=by have:=HI.o.p1;have:=HI.o.p2;simp only [Hid];omega
   go_wp2;go_ret3;exact⟨AO,q,cO,by rw [F.o.1,F.o.2.1,←hC.o];rfl,by rw [F.o.2.2];exact hd.ints,hb⟩
theorem e0m(s:ByteArray)(w:World)(hs63:s.size≤9223372036854775807):Calls Tryz.prog 123 #[.string s] w fun e w'=>∃A q c,e= .returned (.tuple #[.slice A q c,.int .i64 (ct s),.int .i64 (rrE s)])∧ab w' w'.heap.size A q c (fun z=>[.int .i64 z]) 1 (rrX s)∧Below w.heap.size w w':=by
 by_cases h:ce (bt s) s.size=0
 ·by_cases h2:320 <c9 (bt s) s.size
  ·exact e0k s w hs63 h h2
  ·have hg:=zv h;obtain⟨k,hk⟩:=Int.eq_ofNat_of_zero_le (show 0≤ck (bt s) s.size by omega);have hv:0≤c9 (bt s) s.size:=by unfold c9;rw [if_pos h];exact(mx _ _).1
   obtain⟨n,hn⟩:=Int.eq_ofNat_of_zero_le hv;exact e0h s w hs63 h k n hk hn (by omega) (by omega)
 ·exact e0j s w hs63 h
end
end Go.Proofs.YtcldpfhpkbeaiadGreat
