/- The statement of FsMounts, from its walk: for every input the law returns true and its arguments read afterwards as before. No condition of ours. -/
import Derived.Test.YtcldpfhpkbeaiadGreatFsMounts52
set_option maxRecDepth 100000
namespace Go.Proofs.YtcldpfhpkbeaiadGreat.lFsMounts
open Go.ChangeShapes Go.WideShapes Go.ChangeAt Go.RowKit Go.Deep
open Go.ChangeMaps (open_string shut_string)
set_option linter.unusedVariables false
theorem own:ownKnob Tryz.prog.godebug=none:=by kernel_rfl
theorem o0a:laidOutB Tryz.prog=true:=by kernel_rfl
theorem s0f{H:Type}{enc:TypeId×Value→H}{w:World}{base:Nat}{spare:Nat→Bool}{held:Bool}:∀(m:Nat) (cs:List Value) (y:DataW H×List MemPlace),DataW.trod enc Tryz.prog w base spare held m 76 cs=some y→∃z:ae,cs=z.cells∧z.ok:=by intro m cs y h;obtain⟨hl,ys,_,_,hf⟩:=Vu Tryz.underlying76 (by kernel_rfl) (by kernel_rfl) h;obtain⟨v0,z0,m0,c0,_,t0⟩:=hf 0 _ rfl;obtain⟨a0,e0,_,w0⟩:=DataW.trod_int Tryz.underlying3 t0;simp only [List.cons.injEq,and_true]at e0;subst e0;obtain⟨v1,z1,m1,c1,_,t1⟩:=hf 1 _ rfl;obtain⟨a1,e1,_,w1⟩:=DataW.trod_string Tryz.underlying9 t1;simp only [List.cons.injEq,and_true]at e1;subst e1;exact⟨⟨a0,a1⟩,Tg hl c0 c1,⟨w0,w1⟩⟩
theorem n0h(os:Os)(started:os.Started)(H:Type)(enc:TypeId×Value→H):ReturnsInHanded {} Tryz.checked os 3 .any (Rows.fsMountsSpec.pre6 enc Tryz.prog Tryz.f3 Rows.fsMountsRow.domain false) (Rows.fsMountsSpec.post enc Tryz.prog Tryz.f3 false true false false):=by
 refine returnsInHanded_of_change_sized (C:=Tryz.checked) own started (by kernel_rfl) Tryz.func3
  (ChangeSpec.witness6 (enc:=enc) (C:=Tryz.checked) false ⟨#[],#[.agg #[.slice none 0 0,.slice none 0 0]],[]⟩ 8 (by kernel_rfl) (by kernel_rfl) (by kernel_rfl) (by kernel_rfl)) ?_
 intro W base args ds gs before hn hW hu hh _;have h4:∀(j:Nat) t v,Tryz.f3.params[j]?=some t→args[j]?=some v→Value.okWide Tryz.prog W .any base t v:=hn;have h5:=hW;obtain⟨p,q,hg,hV,rfl,hr,hv⟩:=hW;have hA:DataW.TrodAll enc Tryz.prog W 0 (fun _=>true) true Tryz.f3.params.toList args.toList ds p:=hg;rw [Tryz.params3]at hA h4;obtain⟨v0,hx,d0,ht,p0,q0,hq,rfl,rfl,h0,t0⟩:=trodAll_cons hA;obtain⟨rfl,rfl,rfl⟩:=trodAll_nil t0;obtain rfl:args= #[v0]:=by cases args;simp_all
 obtain⟨rfl,rfl⟩:=trodVars_none hV;have k0:=h0;have hf:∀x∈p0,x.block <W.heap.size:=by obtain⟨m,hm⟩:=k0;exact DataW.trod_lt m _ _ _ hm
 have ha:(DataW.weightsEach Tryz.prog [25] [d0]).all (· ≤reachBytes)=true:=by have:=hh;rw [Tryz.params3]at this;exact this
 obtain⟨⟨l0⟩,rfl,_⟩:=okWide_struct Tryz.underlying25 (h4 0 25 v0 rfl rfl);obtain⟨hw,h6⟩:=h0;obtain⟨hk,h7,hp,h9,h2⟩:=Vu Tryz.underlying25 (by kernel_rfl) (by kernel_rfl) h6;have h8:d0= .agg (h7.map (·.1)):=congrArg Prod.fst h9;have h3:=c0n ha (j:=0) (t:=25) rfl (congrArg some h8) Tryz.underlying25;obtain⟨v0_0,z0_0,m0_0,c_0_0,yz0_0,t0_0⟩:=h2 0 _ rfl;obtain⟨a0_0,n0_0,c0_0,rfl,⟨x0_0,r0_0,o0_0⟩,g0_0⟩:=Rn (cells:=(fun(z:ByteArray)=>[.string z])) (ok:=(fun(z:ByteArray)=>z.size≤maxLen)) (k:=1) Tryz.underlying22 (by kernel_rfl) (by decide) (s0e Tryz.underlying9) t0_0
 have s0_0:c0_0*16≤140737488351232:=by
  rcases g0_0 with⟨_,_,hc,_⟩|⟨elems,sp,hd,hl,hs⟩
  ·subst hc;omega
  ·have hb:Tryz.prog.bytesOf 9=16:=by kernel_rfl
   have hj:=r0_0.le;have h1:elems.length+sp.length=c0_0:=by rw [hl,hs (fun _=>rfl)];omega
   have:=sized_slice h3 (j:=0) (t:=22) (e:=9) (elems:=elems) (spare:=sp) rfl (by rw [List.getElem?_map,yz0_0];exact congrArg some hd) Tryz.underlying22;rw [hb,h1]at this;simpa [reachBytes]using this
 obtain⟨v0_1,z0_1,m0_1,c_0_1,yz0_1,t0_1⟩:=h2 1 _ rfl;obtain⟨a0_1,n0_1,c0_1,rfl,⟨x0_1,r0_1,o0_1⟩,g0_1⟩:=Rn (cells:=ae.cells) (ok:=ae.ok) (k:=2) Tryz.underlying23 (by kernel_rfl) (by decide) (s0f (enc:=enc)) t0_1
 have s0_1:c0_1*24≤140737488351232:=by
  rcases g0_1 with⟨_,_,hc,_⟩|⟨elems,sp,hd,hl,hs⟩
  ·subst hc;omega
  ·have hb:Tryz.prog.bytesOf 76=24:=by kernel_rfl
   have hj:=r0_1.le;have h1:elems.length+sp.length=c0_1:=by rw [hl,hs (fun _=>rfl)];omega
   have:=sized_slice h3 (j:=1) (t:=23) (e:=76) (elems:=elems) (spare:=sp) rfl (by rw [List.getElem?_map,yz0_1];exact congrArg some hd) Tryz.underlying23;rw [hb,h1]at this;simpa [reachBytes]using this
 obtain rfl:=Tg hk c_0_0 c_0_1;refine(walk a0_0 n0_0 c0_0 x0_0 a0_1 n0_1 c0_1 x0_1 W r0_0 o0_0 s0_0 r0_1 o0_1 s0_1).mono fun e W' ⟨he,bel⟩=>?_
 subst he;exact⟨_,rfl,_,_,_,[],_,[],h5,trodAll_mk1 (shut_bool Tryz.underlying4 _),(trodAll_cons_mk (Below.trod o0a (by kernel_rfl) (of_decide_eq_true (by kernel_rfl)) k0 bel hf) trodAll_mk0),rfl,bel.frame _,fun h=>by cases h⟩
theorem j0n:Rows.fsMountsRow.holds Tryz.pinned (OpenSpec.ofChange Rows.fsMountsSpec):=
 OpenClaim.holds_of_wide 3 Tryz.f3 rfl rfl rfl rfl rfl rfl rfl ⟨rfl,rfl,rfl,rfl,rfl⟩ rfl rfl rfl rfl rfl (by kernel_rfl) Tryz.func3 (by kernel_rfl)
  (of_decide_eq_true (by kernel_rfl)) (by unfold Func.isWrapper;first|(rw [if_pos (by decide+kernel)];kernel_rfl)|(rw [if_neg (by decide+kernel)];exact⟨rfl,rfl⟩))
  (fun os started H enc _=>n0h os started H enc)
theorem proved:Rows.FsMountsSaid:=j0n
end Go.Proofs.YtcldpfhpkbeaiadGreat.lFsMounts
