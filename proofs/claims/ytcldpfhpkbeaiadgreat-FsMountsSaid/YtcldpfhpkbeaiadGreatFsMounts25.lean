/- A part of the proof of FsMounts. No condition of ours. -/
import Derived.Test.YtcldpfhpkbeaiadGreatFsMounts20
import Derived.Lib.Walk
import Derived.Lib.Builder
import Derived.Lib.AppendStr
import Derived.Laws.Externs
import Derived.Laws.BitsLemmas
set_option maxRecDepth 100000
set_option maxHeartbeats 2000000
namespace Go.Proofs.YtcldpfhpkbeaiadGreat
section
open Go.RowKit
theorem j0d(sz:Nat)(h:sz≤8192)(w:World):Calls Tryz.prog 80 #[.int .i64 sz] w fun e w'=>e= .returned (.int .i64 (npt sz:Nat))∧w'=w:=by
 have HE:Hid ((((sz:Int)+512-1)/512)=((npt sz:Nat):Int)):=by unfold npt;simp only [Hid];omega
 have hs:(sz:Int)≤8192:=by omega
 clear h;go_enter Tryz.func80,Tryz.ntmps80;go_wp2;go_ret;exact⟨ax HE.o,rfl⟩
theorem Td(sz i:Nat)(h:sz≤8192)(hi:i <npt sz)(w:World):Calls Tryz.prog 81 #[.int .i64 sz,.int .i64 i] w fun e w'=>e= .returned (.int .i64 (wid sz i:Nat))∧w'=w:=by
 have h0:(i:Int)≤16:=by unfold npt at hi;omega
 have hs:(sz:Int)≤8192:=by omega
 have H1:Hid (((sz:Int)- (i:Int)*512 <512→(sz:Int)- (i:Int)*512=((wid sz i:Nat):Int))∧(512≤(sz:Int)- (i:Int)*512→(512:Int)=((wid sz i:Nat):Int))):=by unfold wid;simp only [Hid];unfold npt at hi;constructor<;>intro<;>omega
 clear hi h;by_cases h1:(sz:Int)- (i:Int)*512 <512
 ·go_enter Tryz.func81,Tryz.ntmps81;go_wp2;go_ret;exact⟨ax (by have:=H1.o.1 h1;omega),rfl⟩
 ·have h2:512≤(sz:Int)- (i:Int)*512:=by omega
  go_enter Tryz.func81,Tryz.ntmps81;go_wp2;go_ret;exact⟨ax (by have:=H1.o.2 h2;omega),rfl⟩
theorem Me(sz i:Nat)(h:sz≤8192)(hi:i≤64)(w:World):Calls Tryz.prog 72 #[.int .i64 sz,.int .i64 i] w fun e w'=>e= .returned (.int .i64 (wid sz i:Nat))∧w'=w:=by
 have h4:(i:Int)≤64:=by omega
 have hs:(sz:Int)≤8192:=by omega
 have H1:Hid ((0 < (sz:Int)-512*(i:Int)→(sz:Int)-512*(i:Int) <512→(sz:Int)-512*(i:Int)=((wid sz i:Nat):Int))∧(512≤(sz:Int)-512*(i:Int)→(512:Int)=((wid sz i:Nat):Int))∧((sz:Int)-512*(i:Int)≤0→(0:Int)=((wid sz i:Nat):Int))):=by unfold wid;simp only [Hid];exact⟨fun _ _=>by omega,fun _=>by omega,fun _=>by omega⟩
 clear hi h;by_cases h1:(sz:Int)-512*(i:Int) <512
 ·by_cases h0:0 < (sz:Int)-512*(i:Int)
  ·go_enter Tryz.func72,Tryz.ntmps72;go_wp2;go_ret;exact⟨ax (by have:=H1.o.1 h0 h1;omega),rfl⟩
  ·have h3:(sz:Int)-512*(i:Int)≤0:=by omega
   go_enter Tryz.func72,Tryz.ntmps72;go_wp2;go_ret;exact⟨ax (by have:=H1.o.2.2 h3;omega),rfl⟩
 ·have h2:512≤(sz:Int)-512*(i:Int):=by omega
  go_enter Tryz.func72,Tryz.ntmps72;go_wp2;go_ret;exact⟨ax (by have:=H1.o.2.1 h2;omega),rfl⟩
theorem Aa{w w1:World}{sz:Int}{A:Option Addr}{n c:Nat}(h:w1.heap[w.heap.size]?=some (.cells #[.int .i64 sz,.slice A n c] 69 (0,0))):w1.cell? ⟨w.heap.size,0,none⟩=some (.int .i64 sz)∧w1.cell? ⟨w.heap.size,1,none⟩=some (.slice A n c):=⟨aj h 0,aj h 1⟩
theorem zz{t:ByteArray}(h:t.size≠0):¬t.toList=[]:=fun e=>h (by
 have:t=⟨#[]⟩:=yf (by rw [e,Go.Lib.toList_data])
 rw [this];rfl)
theorem Dt{t:ByteArray}(h:t.size≠0):t.toList.isEmpty=false:=by
 have h1:=zz h;cases hl:t.toList with
 |nil=>exact absurd hl h1
 |cons a b=>rfl
theorem j0f{sz:Nat}{ps:List ByteArray}{i:Nat}{p:ByteArray}(e:ps[i]?=some p)(h0:p.size≠0)(h1:p.size≠wid sz i):¬kt sz ps:=fun h=>by
 rcases h.2 i p e with h|h
 ·exact h0 h
 ·exact h1 h
theorem j0c{sz:Nat}{ps:List ByteArray}(hl:ps.length=npt sz)(h:∀q,q <ps.length→∀p,ps[q]?=some p→tq sz q p):kt sz ps:=⟨hl,fun i p e=>h i (gS.1 e).1 p e⟩
theorem r0j(sz:Int)(A:Option Addr)(n c:Nat)(ps:List ByteArray)(w:World)(r:ab w w.heap.size A n c (fun z=>[.string z]) 1 ps):Calls Tryz.prog 46 #[.agg #[.int .i64 sz,.slice A n c]] w fun e w'=>e= .returned (.int .i64 (fy sz ps))∧Below w.heap.size w w':=by
 have hn:=r.len;subst hn;have hu:(ps.length:Int)≤9223372036854775807:=by have h1:=r.le;have h2:=r.top;unfold maxLen at h2;omega
 obtain⟨wa,h4⟩:∃wa,wa=w.alloc (.cells #[.int .i64 sz,.slice A ps.length c] 69):=⟨_,rfl⟩;have h8:Below w.heap.size w wa:=by rw [h4];exact br.alloc ler _
 have h6:wa.heap[w.heap.size]?=some (.cells #[.int .i64 sz,.slice A ps.length c] 69 (0,0)):=by rw [h4];exact A_ w _
 obtain⟨c0,c1⟩:=Aa h6;have R:=h_ (r.below h8);have h5:=h_ h4;have h0:=h_ h8;have ha:=h_ h6;clear r h8 h6 h4;by_cases h:sz <0∨4096 <sz
 ·have F:=h_ (t0e (ps:=ps) h);rcases h with h|h
  ·go_enter Tryz.func46,Tryz.ntmps46;go_wp2;go_ret;exact⟨by rw [F.o]<;>rfl,by rw [←h5.o];exact h0.o⟩
  ·have h':¬sz <0:=by omega
   go_enter Tryz.func46,Tryz.ntmps46;go_wp2;go_ret;exact⟨by rw [F.o]<;>rfl,by rw [←h5.o];exact h0.o⟩
 ·have h1:0≤sz:=by omega
  have h2:sz≤4096:=by omega
  obtain⟨k,rfl⟩:∃k:Nat,sz=(k:Int):=⟨sz.toNat,by omega⟩;have hk:k≤4096:=by omega
  have HP:=h_ (j0d k (by omega));have HK:=h_ hk;have FB:Hid (¬kt k ps→fy k ps=4):=fun hb=>t0f h hb
  have FG:Hid (kt k ps→fy k ps=0):=fun hb=>t0d h hb
  clear h hk;by_cases hl:ps.length=npt k
  ·have HL:=h_ hl;have hj:(ps.length:Int)=((npt k:Nat):Int):=by omega
   rw [←hl]at HP;have h9:ps.length≤8:=by rw [hl];unfold npt;have:=HK.o;omega
   have hs:=h_ h9;clear hl hj h9;go_enter Tryz.func46,Tryz.ntmps46;go_wp2;go_quiet((go_at_call 80;exact Calls.quiet_of_same (HP.o _)));go_wp2;have hd:Below wa.heap.size wa ((w.alloc (.cells #[.int .i64 k,.slice A ps.length c] 69)).drewN nq):=by rw [←h5.o];exact below_drewN br _
   have hm:=h_ hd;clear hd;go_loopw [23] (fun v23 wr=>∃i:Nat,i≤ps.length∧v23= .int .i64 i∧Below wa.heap.size wa wr∧Hid (∀q,q <i→∀p,ps[q]?=some p→tq k q p)) (fun v23 _=>ps.length- (intOf v23).toNat)
   case atStart=>exact⟨0,zl,rfl,hm.o,fun q hq=>absurd hq (Nat.not_lt_zero q)⟩
   case round=>
    obtain⟨i,hi,rfl,hb,HI⟩:=hrel;obtain⟨wq,rfl⟩:∃z:World,z=wr:=⟨_,rfl⟩;have HB:=h_ hb;obtain⟨hy,hx⟩:=Aa (ah ha.o (ag ha.o) hb);clear hb;have he:Hid (Below w.heap.size w wq):=h0.o.trans (HB.o.mono h0.o.size);by_cases hlt:i <ps.length
    ·obtain⟨p,e1⟩:∃p,ps[i]?=some p:=⟨_,gE hlt⟩;have E1:=h_ e1;obtain⟨b,o,rfl,hz,hc⟩:=((R.o.more h0.o.size).below HB.o).one e1;have hh:(i:Int) < (ps.length:Int):=by omega
     have h7:=h_ (Td k i (by have:=HK.o;omega) (by rw [←HL.o];exact hlt));clear e1 c0 c1;by_cases hp:p.size=0
     ·obtain rfl:p=⟨#[]⟩:=by have:=yh hp;exact this
      have F:Hid (∀q,q <i+1→∀p,ps[q]?=some p→tq k q p):=fun q hq p hp=>by
       rcases Nat.lt_or_ge q i with h|h
       ·exact HI.o q h p hp
       ·obtain rfl:q=i:=by omega
        rw [E1.o]at hp;injection hp with hp;subst hp;exact .inl rfl
      clear hp;go_wp2;go_roundw
      case rel=>exact⟨i+1,by omega,by go_num,HB.o,F.o⟩
      case measure=>(simp [intOf];try omega)
     ·have hg:=ls hp;have hr:=zz hp;have ht:=Dt hp;have hf:=h_ hp;clear hp;by_cases hw:p.size=wid k i
      ·have F:Hid (∀q,q <i+1→∀p,ps[q]?=some p→tq k q p):=fun q hq p hp=>by
        rcases Nat.lt_or_ge q i with h|h
        ·exact HI.o q h p hp
        ·obtain rfl:q=i:=by omega
         rw [E1.o]at hp;injection hp with hp;subst hp;exact .inr hw
       rw [←hw]at h7;clear hw;go_wp2_with(go_at_call 81;refine(h7.o _).mono ?_;rintro e w' ⟨rfl,h3⟩;rw [h3];clear h3);go_roundw
       case rel=>exact⟨i+1,by omega,by go_num,HB.o,F.o⟩
       case measure=>(simp [intOf];try omega)
      ·have F:=h_ (FB.o (j0f E1.o hf.o hw));have hv:((p.size:Int)!=((wid k i:Nat):Int))=true:=bN (by omega);clear hw;generalize wid k i=W at*;go_wp2_with(go_at_call 81;refine(h7.o _).mono ?_;rintro e w' ⟨rfl,h3⟩;rw [h3];clear h3);go_ret;exact⟨by rw [F.o]<;>rfl,he.o⟩
    ·have F:=h_ (FG.o (j0c HL.o fun q hq=>HI.o q (by omega)));have hh:¬(i:Int) < (ps.length:Int):=by omega
     go_wp2;go_ret;exact⟨by rw [F.o]<;>rfl,he.o⟩
  ·have F:=h_ (FB.o fun h=>hl h.1);have hg:((ps.length:Int)!=((npt k:Nat):Int))=true:=bN (by omega);clear hl;generalize npt k=N at*;go_enter Tryz.func46,Tryz.ntmps46;go_wp2;go_quiet((go_at_call 80;exact Calls.quiet_of_same (HP.o _)));go_wp2;go_ret;exact⟨by rw [F.o]<;>rfl,by rw [←h5.o];exact below_drewN h0.o _⟩
theorem Yc:(Tryz.prog.info? 161).map (·.size)=some 2:=by kernel_rfl
theorem v0h:liesAt Tryz.prog Tryz.prog.depth 161 (2/Tryz.prog.cellsOf 161) 0 161 1=true:=by kernel_rfl
abbrev IsB(B b:Nat)(bs:List Value)(w:World):Prop:=Lib.IsBuilder 161 5 B b bs w
abbrev AtB(B b:Nat)(bs:List Value)(w:World):Prop:=Lib.BuilderAt 161 5 B b (.pointer (some ⟨b,0,none⟩)) bs w
theorem w0a(b:Nat)(w:World)(h0:w.cell? ⟨b,0,none⟩=some (.pointer (some ⟨b,0,none⟩))):Calls Tryz.prog 113 #[.pointer (some ⟨b,0,none⟩)] w fun e w'=>e= .returned (.tuple #[])∧w'=w:=by obtain⟨j,hj,_⟩:=Option.map_eq_some_iff.1 Yc;go_enter Tryz.func113,Tryz.ntmps113;go_wp2;rw [Lib.run_neq_ptr_same w _ Tryz.underlying158 hj];go_wp2;go_end0;exact⟨rfl,rfl⟩
theorem w0b(b:Nat)(w:World)(h0:w.cell? ⟨b,0,none⟩=some (.pointer none))(hsh:w.shape? b=some (161,2))(hfz:w.frozen? ⟨b,0,none⟩=false):Calls Tryz.prog 113 #[.pointer (some ⟨b,0,none⟩)] w fun e w'=>e= .returned (.tuple #[])∧w'=w.setCell ⟨b,0,none⟩ (.pointer (some ⟨b,0,none⟩)):=by obtain⟨j,hj,h1⟩:=Option.map_eq_some_iff.1 Yc;go_enter Tryz.func113,Tryz.ntmps113;go_wp2;rw [Lib.run_to_unsafe w ⟨b,0,none⟩ Tryz.underlying158 Tryz.underlying219 hj (by rw [h1];decide) hsh (Nat.zero_lt_succ 1)];simp only [Result.andThen];rw [Oper.upon_value];go_wp2;rw [run_callFunc_extern Tryz.func141 (by kernel_rfl) (by kernel_rfl) (by kernel_rfl) (e:=Extern.AbiNoEscape.same) (by kernel_rfl)];rw [Lib.run_noEscape];simp only [Result.andThen];rw [Oper.upon_value];go_wp2;rw [Lib.run_from_unsafe w ⟨b,0,none⟩ Tryz.underlying219 Tryz.underlying158 hj hsh v0h];simp only [Result.andThen];rw [Oper.upon_value];go_wp2;go_end0;exact⟨rfl,rfl⟩
theorem w0c(B b:Nat)(bs:List Value)(w:World)(h:IsB B b bs w):Calls Tryz.prog 113 #[.pointer (some ⟨b,0,none⟩)] w fun e w'=>e= .returned (.tuple #[])∧(AtB B b bs w'∧Below B w w'):=by
 rcases h with h|h
 ·refine(w0b b w h.cell0 h.shape h.frozen0).mono ?_;rintro e w' ⟨rfl,rfl⟩;exact⟨rfl,h.used _,(Below.refl B w).setCell (p:=⟨b,0,none⟩) h.1 _⟩
 ·refine(w0a b w h.cell0).mono ?_;rintro e w' ⟨rfl,rfl⟩;exact⟨rfl,h,Below.refl B _⟩
theorem u0u(B b:Nat)(bs:List Value)(s:ByteArray)(w:World)(h:IsB B b bs w)(hlen:bs.length+s.size≤140737488355328)(hBw:B≤w.heap.size):Calls Tryz.prog 82 #[.pointer (some ⟨b,0,none⟩),.string s] w fun e w'=>e= .returned (.tuple #[.int .i64 s.size,.nilIface])∧(AtB B b (bs++Lib.strCells s) w'∧Below B w w'):=by
 obtain⟨i0,hi,ha,h9,hd⟩:=info_parts tc;go_enter Tryz.func82,Tryz.ntmps82;go_wp2_with(go_at_call 113;refine(w0c B b bs _ h).mono ?_);rintro e w1 ⟨rfl,h1,h3⟩;obtain⟨hB,v,h2,h7,hc⟩:=h1;have c0:w1.cell? ⟨b,0,none⟩=some (.pointer (some ⟨b,0,none⟩)):=by rw [Lib.cell_of_heap h2];rfl
 have c1:w1.cell? ⟨b,1,none⟩=some v:=by rw [Lib.cell_of_heap h2];rfl
 go_wp2_with(at_builtin;refine Lib.wpList_append_own_string _ rfl _ _ 159 9 rfl B 5 i0 Tryz.underlying159 Tryz.underlying9 hi ha h9 hd _ _ _ rfl h7 s rfl ?c3 ?c4 ?c5 ?_)
 case c3=>unfold maxLen;omega
 case c4=>omega
 case c5=>have:=h3.size;omega
 intro v' w2 h6 h5 _
 have h8:b <w1.heap.size:=by
  rcases Nat.lt_or_ge b w1.heap.size with h'|h'
  ·exact h'
  ·simp [Array.getElem?_eq_none h']at h2
 have h0:w2.heap[b]?=some (.cells #[.pointer (some ⟨b,0,none⟩),v] 161 (0,0)):=by rw [h5.block b h8 (fun e=>hc e.symm)];exact h2
 have d0:w2.cell? ⟨b,0,none⟩=some (.pointer (some ⟨b,0,none⟩)):=by rw [Lib.cell_of_heap h0];rfl
 have d1:w2.cell? ⟨b,1,none⟩=some v:=by rw [Lib.cell_of_heap h0];rfl
 have f1:w2.frozen? ⟨b,1,none⟩=false:=Lib.frozen_of_heap h0 1
 obtain⟨ao,n',h4,rfl⟩:∃ao n' h4,v'= .slice ao n' h4:=by
  rcases h6.2 with⟨hv,_⟩|⟨g,h4,cur,hv,_⟩
  ·exact⟨_,_,_,hv⟩
  ·exact⟨_,_,_,hv⟩
 go_wp2;go_ret2;refine⟨rfl,?_,?_⟩
 ·exact Lib.BuilderAt.put hB h0 (bs':=bs++Lib.strCells s) (by simpa [Lib.strCells_length]using h6) (by decide)
 ·exact(h3.grown h5 (by have:=h3.size;omega) (fun k hk=>(h7.lt k hk).1)).setCell (p:=⟨b,1,none⟩) hB _
end
section
open Go.RowKit Go.PlainAid
theorem Ad{P:Program}(l:List UInt8)(s:ByteArray)(h:l.length+s.size≤9223372036854775807):∀W:World,(Op.stringOp .add (mkS l) s).run P W= .ok (.string (mkS (l++bl s))) W:=fun W=>by rw [run_string_add_sum _ _ _ (by rw [vq];exact h),Ip]
theorem Zf(n:Nat):zer (n+1)=zer n++[0]:=by simp [zer,List.replicate_succ']
theorem Q0:∀n:Nat,Lib.repeatL [0] n=zer n
 |0=>rfl
 |n+1=>by simp [Lib.repeatL,Q0 n,zer,List.replicate_succ]
theorem Mn{sz:Nat}:∀(i:Nat) (a b:List ByteArray),whB sz i (a++b)=whB sz i a++whB sz (i+a.length) b
 |i,[],b=>by simp [whB]
 |i,p::a,b=>by simp only [List.cons_append,whB,Mn (i+1) a b,List.length_cons,List.append_assoc];rw [show i+1+a.length=i+(a.length+1) by omega]
theorem b0c{α:Type}{l:List α}{i:Nat}{x:α}(h:l[i]?=some x):l.take (i+1)=l.take i++[x]:=by obtain⟨hi,rfl⟩:=gS.1 h;rw [List.take_succ_eq_append_getElem hi]
theorem Mj{k i:Nat}{ps:List ByteArray}{p:ByteArray}(h:ps[i]?=some p):whB k 0 (ps.take (i+1))=whB k 0 (ps.take i)++ptB k i p:=by have hi:=(gS.1 h).1;rw [b0c h,Mk,List.length_take,Nat.zero_add,Nat.min_eq_left (by omega)]
theorem Mm{k i:Nat}{ps:List ByteArray}:(whB k 0 (ps.take i)).length≤(whB k 0 ps).length:=by have:=Mn (sz:=k) 0 (ps.take i) (ps.drop i);rw [List.take_append_drop]at this;rw [this,List.length_append];omega
theorem Z9(n:Nat)(h:n≤8192)(w:World):Calls Tryz.prog 73 #[.int .i64 n] w fun e w'=>e= .returned (.string (mkS (zer n)))∧w'=w:=by
 have hn:(n:Int)≤8192:=by omega
 go_enter Tryz.func73,Tryz.ntmps73;go_wp2;go_loop [3,5] (fun v3 v5=>∃i:Nat,i≤n∧v5= .int .i64 i∧v3= .string (mkS (zer i))) (fun _ v5=>n- (intOf v5).toNat)
 case atStart=>exact⟨0,zl,rfl,rfl⟩
 case round=>
  obtain⟨i,hi,rfl,rfl⟩:=hrel;by_cases hlt:i <n
  ·have i1:(i:Int) < (n:Int):=by omega
   have h0:=Ad (P:=Tryz.prog) (zer i) ⟨#[0]⟩ (by rw [M0];show i+1≤_;omega);rw [show zer i++bl ⟨#[0]⟩=zer (i+1)from(Zf i).symm]at h0;go_wp2;go_round
   case rel=>exact⟨i+1,by omega,by go_num,rfl⟩
   case measure=>(simp [intOf];try omega)
  ·obtain rfl:i=n:=by omega
   have i1:¬(i:Int) < (i:Int):=by omega
   go_wp2;go_ret;exact⟨rfl,rfl⟩
theorem o0m{B b:Nat}{bs:List Value}{w w':World}(h:IsB B b bs w)(hb:Below w.heap.size w w'):IsB B b bs w':=by
 have h0:∀p,Lib.BuilderAt 161 5 B b p bs w→Lib.BuilderAt 161 5 B b p bs w':=fun p h=>by
  have h4:=h.lt;obtain⟨hB,v,h1,h2,h3⟩:=h;refine⟨hB,v,(hb.block b h4).trans h1,?_,h3⟩;rcases h2 with⟨hl,h2⟩;refine⟨hl,?_⟩;rcases h2 with h2|⟨g,cap,cur,e1,e2,e3,e4⟩
  ·exact .inl h2
  ·have hg:g <w.heap.size:=by
    rcases Nat.lt_or_ge g w.heap.size with h|h
    ·exact h
    ·rw [Array.getElem?_eq_none h]at e3;cases e3
   exact .inr ⟨g,cap,cur,e1,e2,(hb.block g hg).trans e3,e4⟩
 rcases h with h|h
 ·exact .inl (h0 _ h)
 ·exact .inr (h0 _ h)
theorem v0g(w:World):IsB w.heap.size w.heap.size (Lib.byteCells []) (w.alloc (.cells #[.pointer none,.slice none 0 0] 161)):=
 .inl ⟨Nat.le_refl _,.slice none 0 0,A_ w _,World.ownsRow_nil _ _ _ _,by simp [Value.ownBlock]⟩
theorem Zu(k:Nat)(A:Option Addr)(n c:Nat)(ps:List ByteArray)(w:World)(r:ab w w.heap.size A n c (fun z=>[.string z]) 1 ps)(hk:k≤4096)(hok:kt k ps):Calls Tryz.prog 47 #[.agg #[.int .i64 k,.slice A n c]] w fun e w'=>e= .returned (.string (mkS (whB k 0 ps)))∧Below w.heap.size w w':=by
 have hn:=r.len;subst hn;obtain⟨wa,h0⟩:∃wa,wa=w.alloc (.cells #[.int .i64 k,.slice A ps.length c] 69):=⟨_,rfl⟩;have h8:Below w.heap.size w wa:=by rw [h0];exact br.alloc ler _
 have hh:wa.heap[w.heap.size]?=some (.cells #[.int .i64 k,.slice A ps.length c] 69 (0,0)):=by rw [h0];exact A_ w _
 have h7:wa.heap.size=w.heap.size+1:=by rw [h0];simp
 have R:=h_ (r.below h8);have hw:=h_ h0;have h5:=h_ h8;have he:=h_ hh;have hg:=h_ h7;have hf:=h_ hok;have hz:ps.length≤8:=by rw [hok.1];unfold npt;omega
 have hv:Hid ((whB k 0 ps).length=k):=Bb hok;have HK:=h_ hk;have I0:Hid (IsB (w.heap.size+1) (w.heap.size+1) (Lib.byteCells []) (wa.alloc (.cells #[.pointer none,.slice none 0 0] 161))):=by have:=v0g wa;rw [h7]at this;exact this
 have B0:Hid (Below wa.heap.size wa (wa.alloc (.cells #[.pointer none,.slice none 0 0] 161))):=br.alloc ler _;clear r h8 hh h0 hok h7 hk;go_enter Tryz.func47,Tryz.ntmps47;go_wp2;rw [←hw.o];go_loopw [9] (fun v9 wr=>∃i:Nat,i≤ps.length∧v9= .int .i64 i∧Hid (IsB (w.heap.size+1) (w.heap.size+1) (Lib.byteCells (whB k 0 (ps.take i))) wr)∧Hid (Below wa.heap.size wa wr)) (fun v9 _=>ps.length- (intOf v9).toNat)
 case atStart=>exact⟨0,zl,rfl,I0.o,B0.o⟩
 case round=>
  obtain⟨i,hi,rfl,HI,HB⟩:=hrel;obtain⟨wq,rfl⟩:∃z:World,z=wr:=⟨_,rfl⟩;clear I0 B0;have hj:w.heap.size+1≤wq.heap.size:=by rw [←hg.o];exact HB.o.size
  by_cases hlt:i <ps.length
  ·obtain⟨p,e1⟩:∃p,ps[i]?=some p:=⟨_,gE hlt⟩;have HS:=h_ (Mj (k:=k) e1);have HP:=h_ (Mm (k:=k) (i:=i+1) (ps:=ps));have hd:=hf.o.2 i p e1;obtain⟨b,o,rfl,hF,hc⟩:=(R.o.more h5.o.size |>.below HB.o).one e1;obtain⟨hE,hC⟩:=Aa (ah he.o (ag he.o) HB.o);have hu:(i:Int) < (ps.length:Int):=by omega
   have HW:Hid (∀(t:ByteArray),bl t=ptB k i p→∀W,Below wq.heap.size wq W→Calls Tryz.prog 82 #[.pointer (some ⟨w.heap.size+1,0,none⟩),.string t] W fun e w'=>e= .returned (.tuple #[.int .i64 t.size,.nilIface])∧(Hid (IsB (w.heap.size+1) (w.heap.size+1) (Lib.byteCells (whB k 0 (ps.take (i+1)))) w')∧Hid (Below wa.heap.size wa w'))):=fun t ht W hW=>by
    have hx:(Lib.byteCells (whB k 0 (ps.take i))).length+t.size≤140737488355328:=by rw [Lib.byteCells_length,←m9 t,ht];have h1:=HP.o;rw [HS.o,List.length_append,hv.o]at h1;have:=HK.o;omega
    refine(u0u (w.heap.size+1) (w.heap.size+1) _ t W (o0m HI.o hW) hx (Nat.le_trans hj hW.size)).mono ?_;rintro e w' ⟨rfl,h1,h2⟩;refine⟨rfl,?_,?_⟩
    ·rw [HS.o,Lib.byteCells_append,←ht];exact .inr h1
    ·have h3:=HB.o.trans (hW.mono HB.o.size);exact h3.trans (h2.mono (Nat.le_of_eq hg.o))
   have hy:=h_ (Td k i (by have:=HK.o;omega) (by rw [←hf.o.1];exact hlt));have hm:Hid (wid k i≤512):=Mf k i;clear e1;by_cases hp:p.size=0
   ·obtain rfl:p=⟨#[]⟩:=by have:=yh hp;exact this
    have HT:Hid (bl (mkS (zer (wid k i)))=ptB k i ⟨#[]⟩):=rfl
    have hr:Hid (∀W,Calls Tryz.prog 77 #[.string ⟨#[0]⟩,.int .i64 ((wid k i:Nat):Int)] W fun e w'=>e= .returned (.string (mkS (zer (wid k i))))∧Below W.heap.size W w'):=fun W=>by have:=Tryz.strings_Repeat ⟨#[0]⟩ (wid k i) W (by have:=hm.o;omega) (by have:=hm.o;show 1*_≤_;omega);have e:Lib.repeatL (⟨#[0]⟩:ByteArray).data.toList (wid k i)=zer (wid k i):=Q0 _;rw [e]at this;exact this
    clear hp hd;generalize hWW:wid k i=WW at*;clear hWW
    go_wp2_with(first
     |(go_at_call 81;refine(hy.o _).mono ?_;rintro e w' ⟨rfl,ha⟩;rw [ha];clear ha)
     |(go_at_call 77;refine(hr.o _).mono ?_;rintro e w2 ⟨rfl,h9⟩;have hs:=h_ h9;clear h9)
     |(go_at_call 82;refine(HW.o _ HT.o _ hs.o).mono ?_;rintro e w3 ⟨rfl,h6,h4⟩))
    go_roundw
    case rel=>exact⟨i+1,by omega,by go_num,h6.o,h4.o⟩
    case measure=>(simp [intOf];try omega)
   ·have hD:=ls hp;have hA:=zz hp;have hB:=Dt hp;have HT:Hid (bl p=ptB k i p):=by simp only [Hid];unfold ptB;rw [if_neg hp]
    clear hp hd;go_wp2_with(go_at_call 82;refine(HW.o _ HT.o _ br).mono ?_;rintro e w3 ⟨rfl,h6,h4⟩);go_roundw
    case rel=>exact⟨i+1,by omega,by go_num,h6.o,h4.o⟩
    case measure=>(simp [intOf];try omega)
  ·obtain rfl:i=ps.length:=by omega
   have hu:¬(ps.length:Int) < (ps.length:Int):=by omega
   have hq:=h_ (Tryz.Builder_String_any (w.heap.size+1) (w.heap.size+1) _ wq HI.o hj);rw [List.take_length]at hq;go_wp2_with(go_at_call 83;refine hq.o.mono ?_;rintro e w3 ⟨rfl,h4⟩);go_ret;exact⟨rfl,(h5.o.trans (HB.o.mono h5.o.size)).trans (h4.mono (Nat.le_succ _))⟩
theorem u0t(k:Nat)(A:Option Addr)(n c:Nat)(ps:List ByteArray)(w:World)(r:ab w w.heap.size A n c (fun z=>[.string z]) 1 ps)(hk:k≤4096)(hok:kt k ps):Calls Tryz.prog 42 #[.agg #[.int .i64 k,.slice A n c]] w fun e w'=>e= .returned (.string (mkS (whB k 0 ps)))∧Below w.heap.size w w':=by
 have hn:=r.len;subst hn;obtain⟨wa,h2⟩:∃wa,wa=w.alloc (.cells #[.int .i64 k,.slice A ps.length c] 69):=⟨_,rfl⟩;have h3:Below w.heap.size w wa:=by rw [h2];exact br.alloc ler _
 have h4:wa.heap[w.heap.size]?=some (.cells #[.int .i64 k,.slice A ps.length c] 69 (0,0)):=by rw [h2];exact A_ w _
 obtain⟨c0,c1⟩:=Aa h4;have R:=h_ (r.below h3);have h6:=h_ h2;have h5:=h_ h3;have hm:=h_ hok;have hf:ps.length≤8:=by rw [hok.1];unfold npt;omega
 have hd:Hid ((whB k 0 ps).length=k):=Bb hok;have HK:=h_ hk;clear r h3 h4 h2 hok hk;go_enter Tryz.func42,Tryz.ntmps42;go_wp2;rw [←h6.o];go_loop [3,9] (fun v3 v9=>∃i:Nat,i≤ps.length∧v9= .int .i64 i∧v3= .string (mkS (whB k 0 (ps.take i)))) (fun _ v9=>ps.length- (intOf v9).toNat)
 case atStart=>exact⟨0,zl,rfl,rfl⟩
 case round=>
  obtain⟨i,hi,rfl,rfl⟩:=hrel;by_cases hlt:i <ps.length
  ·obtain⟨p,e1⟩:∃p,ps[i]?=some p:=⟨_,gE hlt⟩;have HS:=h_ (Mj (k:=k) e1);have HP:=h_ (Mm (k:=k) (i:=i+1) (ps:=ps));obtain⟨b,o,rfl,hh,hc⟩:=R.o.one e1;have h8:(i:Int) < (ps.length:Int):=by omega
   have HC:Hid (∀(t:ByteArray),bl t=ptB k i p→∀W,(Op.stringOp .add (mkS (whB k 0 (ps.take i))) t).run Tryz.prog W= .ok (.string (mkS (whB k 0 (ps.take (i+1))))) W):=fun t ht W=>by rw [HS.o,←ht];refine Ad _ t ?_ W;rw [←m9 t,ht];have h1:=HP.o;rw [HS.o,List.length_append,hd.o]at h1;have:=HK.o;omega
   have ha:=h_ (Me k i (by have:=HK.o;omega) (by omega));have h7:Hid (wid k i≤512):=Mf k i;clear e1;by_cases hp:p.size=0
   ·obtain rfl:p=⟨#[]⟩:=by have:=yh hp;exact this
    have h9:=HC.o (mkS (zer (wid k i))) rfl;have HZ:=h_ (Z9 (wid k i) (by have:=h7.o;omega));clear hp;generalize hWW:wid k i=WW at*;clear hWW;generalize whB k 0 (ps.take i)=X at*
    go_wp2_with(first
     |(go_at_call 72;refine(ha.o _).mono ?_;rintro e w' ⟨rfl,h0⟩;rw [h0];clear h0)
     |(go_at_call 73;refine(HZ.o _).mono ?_;rintro e w' ⟨rfl,h0⟩;rw [h0];clear h0))
    go_round
    case rel=>exact⟨i+1,by omega,by go_num,rfl⟩
    case measure=>(simp [intOf];try omega)
   ·have hg:=ls hp;have hj:=zz hp;have he:=Dt hp;have h9:=HC.o p (by unfold ptB;rw [if_neg hp]);clear hp;generalize whB k 0 (ps.take i)=X at*;go_wp2;go_round
    case rel=>exact⟨i+1,by omega,by go_num,rfl⟩
    case measure=>(simp [intOf];try omega)
  ·obtain rfl:i=ps.length:=by omega
   have h8:¬(ps.length:Int) < (ps.length:Int):=by omega
   go_wp2;go_ret;exact⟨rfl,h5.o⟩
noncomputable def frE(sz a n:Int)(ps:List ByteArray):Int:=if fy sz ps≠0 then fy sz ps else if a <0∨n <0 then 1 else 0
noncomputable def frS(sz a n:Int)(ps:List ByteArray):ByteArray:=if frE sz a n ps=0 then mkS (((whB sz.toNat 0 ps).drop a.toNat).take n.toNat)else mkS []
theorem q0p{sz a n:Int}{ps:List ByteArray}(h:fy sz ps≠0):frE sz a n ps=fy sz ps∧frS sz a n ps=⟨#[]⟩:=by have e:frE sz a n ps=fy sz ps:=if_pos h;exact⟨e,by unfold frS;rw [if_neg (by rw [e];exact h)];rfl⟩
theorem q0q{sz a n:Int}{ps:List ByteArray}(h:fy sz ps=0)(h2:a <0∨n <0):frE sz a n ps=1∧frS sz a n ps=⟨#[]⟩:=by
 have e:frE sz a n ps=1:=by unfold frE;rw [if_neg (by rw [h];decide),if_pos h2]
 exact⟨e,by unfold frS;rw [if_neg (by rw [e];decide)];rfl⟩
theorem V4{k a n:Nat}{ps:List ByteArray}(h:fy k ps=0):frE k a n ps=0∧frS k a n ps=mkS (((whB k 0 ps).drop a).take n):=by
 have e:frE k a n ps=0:=by unfold frE;rw [if_neg (by rw [h];decide),if_neg (by omega)]
 exact⟨e,by unfold frS;rw [if_pos e];rfl⟩
def Lu(sz a n:Int)(ps:List ByteArray)(w:World)(e:Ending)(w':World):Prop:=e= .returned (.tuple #[.string (frS sz a n ps),.int .i64 (frE sz a n ps)])∧Below w.heap.size w w'
theorem V3(sz:Int)(A:Option Addr)(m c:Nat)(ps:List ByteArray)(a n:Int)(w:World)(r:ab w w.heap.size A m c (fun z=>[.string z]) 1 ps):Calls Tryz.prog 21 #[.agg #[.int .i64 sz,.slice A m c],.int .i64 a,.int .i64 n] w (Lu sz a n ps w):=by
 obtain⟨wa,h4⟩:∃wa,wa=w.alloc (.cells #[.int .i64 sz,.slice A m c] 69):=⟨_,rfl⟩;have h7:Below w.heap.size w wa:=by rw [h4];exact br.alloc ler _
 have h9:wa.heap[w.heap.size]?=some (.cells #[.int .i64 sz,.slice A m c] 69 (0,0)):=by rw [h4];exact A_ w _
 have hc:w.heap.size <wa.heap.size:=by rw [h4];simp
 have R:=h_ ((r.below h7).more h7.size);have h3:=h_ (r0j sz A m c ps wa R.o);have HC:Hid (∀W,Below wa.heap.size wa W→W.cell? ⟨w.heap.size,0,none⟩=some (.int .i64 sz)∧W.cell? ⟨w.heap.size,1,none⟩=some (.slice A m c)):=fun W h=>Aa (ah h9 (ag h9) h)
 have h5:=h_ h4;have h1:=h_ h7;clear r h7 h9 h4;by_cases hd:fy sz ps=0
 ·obtain⟨⟨z0,z1⟩,h8⟩:=t0c hd;rw [hd]at h3;by_cases hneg:a <0∨n <0
  ·obtain⟨f1,f2⟩:=q0q hd hneg;have F1:=h_ f1;have F2:=h_ f2;clear f1 f2 hd;rcases(show a <0∨(¬a <0∧n <0) by omega)with ha|⟨ha,hn⟩
   ·go_enter Tryz.func21,Tryz.ntmps21;go_wp2_with(go_at_call 46;rw [←h5.o];refine h3.o.mono ?_;rintro e w1 ⟨rfl,h0⟩);go_ret2;exact⟨by rw [F1.o,F2.o]<;>rfl,h1.o.trans (h0.mono h1.o.size)⟩
   ·go_enter Tryz.func21,Tryz.ntmps21;go_wp2_with(go_at_call 46;rw [←h5.o];refine h3.o.mono ?_;rintro e w1 ⟨rfl,h0⟩);go_ret2;exact⟨by rw [F1.o,F2.o]<;>rfl,h1.o.trans (h0.mono h1.o.size)⟩
  ·obtain⟨k,rfl⟩:∃k:Nat,sz=(k:Int):=⟨sz.toNat,by omega⟩;obtain⟨a',rfl⟩:∃k:Nat,a=(k:Int):=⟨a.toNat,by omega⟩;obtain⟨n',rfl⟩:∃k:Nat,n=(k:Int):=⟨n.toNat,by omega⟩;obtain⟨f1,f2⟩:=V4 (k:=k) (a:=a') (n:=n') hd;have h6:(whB k 0 ps).length=k:=Bb h8;by_cases hak:k≤a'
   ·have F2:Hid (frS k a' n' ps=⟨#[]⟩):=by simp only [Hid];rw [f2,List.drop_of_length_le (by omega)];simp [mkS]
    have F1:=h_ f1;have i1:(k:Int)≤(a':Int):=by omega
    clear f1 f2 hd h8 hneg z0 z1 h6 hak;go_enter Tryz.func21,Tryz.ntmps21;go_wp2_with(go_at_call 46;rw [←h5.o];refine h3.o.mono ?_;rintro e w1 ⟨rfl,h0⟩;obtain⟨k0,k1⟩:=HC.o _ h0);go_ret2;exact⟨by rw [F1.o,F2.o]<;>rfl,h1.o.trans (h0.mono h1.o.size)⟩
   ·have F1:=h_ f1;have F2:=h_ f2;have he:Hid (∀W,Below wa.heap.size wa W→Calls Tryz.prog 47 #[.agg #[.int .i64 k,.slice A m c]] W fun e w'=>e= .returned (.string (mkS (whB k 0 ps)))∧Below W.heap.size W w'):=fun W h=>Zu k A m c ps W ((R.o.below h).more h.size) (by omega) h8
    have i1:(a':Int) < (k:Int):=by omega
    have i0:¬(k:Int)≤(a':Int):=by omega
    have i2:(k:Int)≤4096:=by omega
    have HT:Hid (∀x,(mkS (whB k 0 ps)).extract a' (a'+x)=mkS (((whB k 0 ps).drop a').take x)):=fun x=>by rw [In];congr 2;omega
    have hp:((mkS (whB k 0 ps)).size:Int)≤(k:Int):=by rw [vq,h6];omega
    have hr:(k:Int)≤((mkS (whB k 0 ps)).size:Int):=by rw [vq,h6];omega
    have hg:Hid (((whB k 0 ps).drop a').length=k-a'):=by simp only [Hid];rw [List.length_drop,h6]
    clear f1 f2 hd h8 hneg z0 z1 h6 hak;generalize whB k 0 ps=X at*;generalize hTT:mkS X=T at*;have hq:=h_ hTT;clear hTT;have hk:IntKind.i64.wrap ((k:Int)- (a':Int))=(k:Int)- (a':Int):=by rw [IntKind.wrap_i64];omega
    obtain⟨x,hx⟩:∃x:Nat,min (n':Int) ((k:Int)- (a':Int))=(x:Int):=⟨(min (n':Int) ((k:Int)- (a':Int))).toNat,by omega⟩;have hh:(x:Int)≤(k:Int)- (a':Int):=by omega
    have hm:IntKind.i64.wrap ((a':Int)+(x:Int))=(a':Int)+(x:Int):=by rw [IntKind.wrap_i64];omega
    have F3:Hid (mkS ((X.drop a').take n')=T.extract a' (a'+x)):=by
     simp only [Hid];rw [HT.o];congr 1;have hL:=hg.o;rcases(show x=n'∨(x=k-a'∧k-a'≤n') by omega)with h|⟨h,h2⟩
     ·rw [h]
     ·rw [h,List.take_of_length_le (by omega),List.take_of_length_le (by omega)]
    have p0:(0:Int)≤(a':Int):=by omega
    have p1:(a':Int)≤(a':Int)+(x:Int):=by omega
    have p2:(a':Int)+(x:Int)≤(T.size:Int):=by omega
    have p4:(0:Int)≤(a':Int)+(x:Int):=by omega
    have p5:((a':Int)+(x:Int)).toNat=a'+x:=by omega
    go_enter Tryz.func21,Tryz.ntmps21;go_upto_region 8 with(go_at_call 46;rw [←h5.o];refine h3.o.mono ?_;rintro e w1 ⟨rfl,h0⟩;have hj:=h_ h0;obtain⟨k0,k1⟩:=HC.o _ h0;have hS:w1.cell? ⟨w.heap.size,0,none⟩=some (.int .i64 k)∧w1.cell? ⟨w.heap.size,1,none⟩=some (.slice A m c)∧wa.heap.size≤w1.heap.size∧Below wa.heap.size wa w1:=⟨k0,k1,h0.size,h0⟩;clear h0)
    go_region_held3 (fun W=>W.cell? ⟨w.heap.size,0,none⟩=some (.int .i64 k)∧W.cell? ⟨w.heap.size,1,none⟩=some (.slice A m c)∧wa.heap.size≤W.heap.size∧Below wa.heap.size wa W)
     (first|assumption|exact Tt (by assumption)|exact Tu hc hc (by assumption) (by assumption))
     ((go_at_call 47;refine(he.o _ (J2 (by assumption))).mono ?_;rintro e w' ⟨rfl,hb⟩))
    all_goals
     rename_i hHeld;have hf:=J2 hHeld;go_wp2;go_ret2;exact⟨by rw [F1.o,F2.o,F3.o]<;>rfl,h1.o.trans (hf.mono h1.o.size)⟩
 ·obtain⟨f1,f2⟩:=q0p (a:=a) (n:=n) hd;have F1:=h_ f1;have F2:=h_ f2;have hs:(fy sz ps !=0)=true:=bN hd;clear f1 f2 hd;generalize fy sz ps=E at*;go_enter Tryz.func21,Tryz.ntmps21;go_wp2_with(go_at_call 46;rw [←h5.o];refine h3.o.mono ?_;rintro e w1 ⟨rfl,h0⟩);go_ret2;exact⟨by rw [F1.o,F2.o]<;>rfl,h1.o.trans (h0.mono h1.o.size)⟩
theorem Nx{s:ByteArray}(h:s≠⟨#[46]⟩):(s.toList==[46])=false∧¬s.toList=[46]:=by
 have e:((⟨#[46]⟩:ByteArray).toList)=[46]:=by rw [Go.Lib.toList_data]
 have:=me h;rw [e]at this;exact⟨this,beq_eq_false_iff_ne.1 this⟩
theorem Nw{s:ByteArray}(h:s≠⟨#[46,46]⟩):(s.toList==[46,46])=false∧¬s.toList=[46,46]:=by
 have e:((⟨#[46,46]⟩:ByteArray).toList)=[46,46]:=by rw [Go.Lib.toList_data]
 have:=me h;rw [e]at this;exact⟨this,beq_eq_false_iff_ne.1 this⟩
theorem f0u(s:ByteArray)(w:World):Calls Tryz.prog 153 #[.string s] w fun e w'=>e= .returned (.int .i64 (je s))∧w'=w:=by
 by_cases h1:s.size <1
 ·have F:=h_ (nk (s:=s) fun h=>by have:=h.1;omega);have i1:(s.size:Int) <1:=by omega
  rw [F.o];clear h1;go_enter Tryz.func153,Tryz.ntmps153;go_wp2;go_ret;exact⟨rfl,rfl⟩
 ·have i1:¬(s.size:Int) <1:=by omega
  by_cases h2:12 <s.size
  ·have F:=h_ (nk (s:=s) fun h=>by have:=h.2.1;omega);have i2:12 < (s.size:Int):=by omega
   rw [F.o];clear h1 h2;go_enter Tryz.func153,Tryz.ntmps153;go_wp2;go_ret;exact⟨rfl,rfl⟩
  ·have i2:¬12 < (s.size:Int):=by omega
   by_cases h3:s=⟨#[46]⟩
   ·have F:=h_ (nk (s:=s) fun h=>h.2.2.1 h3);rw [F.o];subst h3;clear h1 h2 i1 i2;go_enter Tryz.func153,Tryz.ntmps153;go_wp2;go_ret;exact⟨rfl,rfl⟩
   ·obtain⟨e1,h0⟩:=Nx h3;by_cases h4:s=⟨#[46,46]⟩
    ·have F:=h_ (nk (s:=s) fun h=>h.2.2.2.1 h4);rw [F.o];subst h4;clear h1 h2 h3 i1 i2 e1 h0;go_enter Tryz.func153,Tryz.ntmps153;go_wp2;go_ret;exact⟨rfl,rfl⟩
    ·obtain⟨e2,h5⟩:=Nw h4;have H:=h_ (show 1≤s.size∧s.size≤12∧s≠⟨#[46]⟩∧s≠⟨#[46,46]⟩from⟨by omega,by omega,h3,h4⟩);have hg:=get_bt s;clear h1 h2 h3 h4;go_enter Tryz.func153,Tryz.ntmps153;go_wp2;go_loopw [22] (fun v22 wr=>∃i:Nat,i≤s.size∧v22= .int .i64 i∧wr=w∧Hid (∀j,j <i→bt s j≠0∧bt s j≠47)) (fun v22 _=>s.size- (intOf v22).toNat)
     case atStart=>exact⟨0,zl,rfl,rfl,fun j h=>absurd h (Nat.not_lt_zero _)⟩
     case round=>
      obtain⟨i,hi,rfl,rfl,HA⟩:=hrel;by_cases hlt:i <s.size
      ·have h6:(i:Int) < (s.size:Int):=by omega
       by_cases b0:bt s i=0
       ·have F:=h_ (nk (s:=s) fun h=>(h.2.2.2.2 i hlt).1 b0);have c0:(bt s i==0)=true:=beq_iff_eq.2 b0;go_wp2;go_ret;exact⟨by rw [F.o];rfl,rfl⟩
       ·by_cases b1:bt s i=47
        ·have F:=h_ (nk (s:=s) fun h=>(h.2.2.2.2 i hlt).2 b1);have c0:(bt s i==0)=false:=bF b0;have c1:(bt s i==47)=true:=beq_iff_eq.2 b1;go_wp2;go_ret;exact⟨by rw [F.o];rfl,rfl⟩
        ·have HN:Hid (∀j,j <i+1→bt s j≠0∧bt s j≠47):=fun j hj=>by
          by_cases e:j=i
          ·rw [e];exact⟨b0,b1⟩
          ·exact HA.o j (by omega)
         have c0:(bt s i==0)=false:=bF b0;have c1:(bt s i==47)=false:=bF b1;go_wp2;go_roundw
         case rel=>exact⟨i+1,by omega,by go_num,trivial,HN⟩
         case measure=>(simp [intOf];try omega)
      ·obtain rfl:i=s.size:=by omega
       have F:=h_ (Sp (s:=s) ⟨H.o.1,H.o.2.1,H.o.2.2.1,H.o.2.2.2,HA.o⟩);go_wp2;go_ret;exact⟨by rw [F.o];rfl,rfl⟩
end
end Go.Proofs.YtcldpfhpkbeaiadGreat
