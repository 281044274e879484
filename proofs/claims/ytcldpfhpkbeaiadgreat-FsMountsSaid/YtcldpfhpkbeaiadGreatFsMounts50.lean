/- A part of the proof of FsMounts. No condition of ours. -/
import Derived.Test.YtcldpfhpkbeaiadGreatFsMounts49
import Derived.Test.YtcldpfhpkbeaiadGreatFsMounts47
import Derived.Test.YtcldpfhpkbeaiadGreatFsMounts48
set_option maxRecDepth 20000
set_option maxHeartbeats 4000000
namespace Go.Proofs.YtcldpfhpkbeaiadGreat
section
open Go.RowKit Go.Maps
def O9:Value→Nat
 | .slice _ n _=>n
 |_=>0
theorem d0t(A:Option Addr)(n c:Nat)(cs:List ByteArray)(A':Option Addr)(n' c':Nat)(ws:List ae)(a:Int)(w:World)(r:ab w w.heap.size A n c (fun z=>[.string z]) 1 cs)(r':ab w w.heap.size A' n' c' ae.cells 2 ws):Calls Tryz.prog 35 #[.agg #[.slice A n c,.slice A' n' c'],.int .i64 a] w (Ap cs ws a w):=by
 have gH:=r.len;subst gH;have gg:=r'.len;subst gg;obtain⟨wa,hB⟩:∃wa,wa=w.alloc (.cells #[.slice A cs.length c,.slice A' ws.length c'] 25):=⟨_,rfl⟩;have hq:Below w.heap.size w wa:=by rw [hB];exact br.alloc ler _
 have hr:wa.heap[w.heap.size]?=some (.cells #[.slice A cs.length c,.slice A' ws.length c'] 25 (0,0)):=by rw [hB];exact A_ w _
 have hI:=hq.size;have RA:=h_ ((r.below hq).more hI);have hL:=h_ ((r'.below hq).more hI);have hm:=h_ (K9 A cs.length c cs A' ws.length c' ws wa RA.o hL.o)
 have HC:Hid (∀W,Below wa.heap.size wa W→W.cell? ⟨w.heap.size,0,none⟩=some (.slice A cs.length c)∧W.cell? ⟨w.heap.size,1,none⟩=some (.slice A' ws.length c')):=fun W h=>by have q0:=ah hr (ag hr) h;exact⟨aj q0 0,aj q0 1⟩
 have c0:=rc0 hr;have c1:=rc1 hr;have hy:=h_ hB;have hh:=h_ hq;clear r r' hB hq hr hI;by_cases hd:au cs ws=0
 ·rw [hd]at hm;by_cases ha:a <0∨2147483647 <a
  ·have F:=h_ (Ot hd ha);have HD:=h_ hd;clear hd;rcases ha with ha|ha
   ·go_enter Tryz.func35,Tryz.ntmps35;go_wp2_with(go_at_call 15;rw [←hy.o];refine hm.o.mono ?_;rintro e w1 ⟨rfl,hf⟩);go_ret3;exact .inl ⟨by rw [F.o];decide,by rw [F.o];rfl,hh.o.trans (hf.mono hh.o.size)⟩
   ·have x7:¬a <0:=by omega
    go_enter Tryz.func35,Tryz.ntmps35;go_wp2_with(go_at_call 15;rw [←hy.o];refine hm.o.mono ?_;rintro e w1 ⟨rfl,hf⟩);go_ret3;exact .inl ⟨by rw [F.o];decide,by rw [F.o];rfl,hh.o.trans (hf.mono hh.o.size)⟩
  ·have F:=h_ (yn hd ha);have hT:=h_ (jz hd);have g8:0≤a:=by omega
   have ga:a≤2147483647:=by omega
   have xb:(cs.length:Int)≤128:=by have:=hT.o.2.1;omega
   clear hd ha;go_enter Tryz.func35,Tryz.ntmps35;go_wp2_with(go_at_call 15;rw [←hy.o];refine hm.o.mono ?_;rintro e w1 ⟨rfl,hf⟩;have hj:=h_ hf;obtain⟨k0,k1⟩:=HC.o _ hf;clear hf);have I0:Hid (SfI cs ws a w1 0 [] [] [] a none 0 none 0 w1):=c0t
   have HN:Hid (∀(W:World) (k:Nat),Below w1.heap.size w1 W→k <cs.length→2≤k→Calls Tryz.prog 66 #[.agg #[.slice A cs.length c,.slice A' ws.length c'],.int .i64 k] W (Et (ar cs ws k) W)):=fun W k h hk hk2=>by have hb:=hj.o.trans (h.mono hj.o.size);exact g0e A _ c cs A' _ c' ws k W ((RA.o.below hb).more hb.size) ((hL.o.below hb).more hb.size) hk hT.o.2.2.2.2 hk2
   unfold Et at HN;clear k0 k1 c0 c1 hm RA hL;go_loopw [8,9,10,33] (fun v8 v9 v10 v33 wr=>∃(i:Nat) (js:List Nat) (ns:List Int) (vs:List EnV) (m:Int) (A:Option Addr) (c:Nat) (A':Option Addr) (c':Nat),i≤cs.length∧v33= .int .i64 i∧v8= .slice A vs.length c∧v9= .slice A' ns.length c'∧v10= .int .i64 m∧Hid (SfI cs ws a w1 i js ns vs m A c A' c' wr)) (fun _ _ _ v33 _=>cs.length- (intOf v33).toNat)
   case atStart=>exact⟨0,[],[],[],a,none,0,none,0,zl,rfl,rfl,rfl,rfl,I0.o⟩
   case round=>
    obtain⟨i,js,ns,vs,m,A1,c1,A2,c2,hi,rfl,rfl,rfl,rfl,hP⟩:=hrel;obtain⟨wq,rfl⟩:∃z:World,z=wr:=⟨_,rfl⟩;clear I0;by_cases hlt:i <cs.length
    ·obtain⟨k0,k1⟩:=HC.o wq (hj.o.trans (hP.o.below.mono hj.o.size));have j1:(i:Int) < (cs.length:Int):=by omega
     by_cases h2:i <2
     ·have HL:=h_ (g0f A cs.length c A' ws.length c' i wq h2);go_wp2_with(go_at_call 66;refine HL.o.mono ?_;rintro e w2 ⟨rfl,hg⟩);have HF:=h_ (c0v hP.o h2 hg);go_roundw
      case rel=>exact⟨i+1,js,ns,vs,m,A1,c1,A2,c2,by omega,by go_num,rfl,rfl,rfl,HF.o⟩
      case measure=>(simp [intOf];try omega)
     ·have hH:2≤i:=by omega
      have HL:=h_ (HN.o wq i hP.o.below hlt hH);have H2:=h_ hH;have hv:=h_ hlt;have x1:(vs.length:Int)≤128∧(ns.length:Int)≤128:=by have:=hP.o.few;have:=rv hP.o.ens;have:=Sc hP.o.nums;omega
      clear h2 hH;by_cases ho:scO (ar cs ws i)=true
      ·have HO:=h_ ho;rw [ho]at HL;have OV:=h_ hP.o.own;have ON:=h_ hP.o.own';have gL:=h_ hP.o.apart;have g9:=h_ hP.o.below;have gs:=h_ (fun w1' w5 w6 q d c5 c6 A2' A5 A6 h1 h2 h3 h4 h5 h6 h7 h8 h9=> @c0s cs ws a m w1 wq w1' i c1 c2 js ns vs A1 A2 w5 w6 q d c5 c6 A2' A5 A6 hP.o H2.o hv.o HO.o h1 h2 h3 h4 h5 h6 h7 h8 h9);have G3:Hid (vs.length+1≤maxLen∧(vs.length+1)*40≤140737488355328∧ns.length+1≤maxLen∧(ns.length+1)*8≤140737488355328):=by unfold maxLen;simp only [Hid];omega
       have G4:Hid (0 <3):=by simp [Hid]
       clear ho;generalize hN:scN (ar cs ws i)=N at*;generalize hBB:scB (ar cs ws i)=bb at*;have x4:=h_ hBB;have x2:=h_ hN;clear hBB hN
       go_wp2_with(first
        |(go_at_call 66;refine HL.o.mono ?_;rintro e w2 ⟨A3,q,d,rfl,hz,hg,hx⟩;have gC:=h_ hz;have g5:=h_ hx;have hC:=h_ hg;have gZ:=h_ (OV.o.fresh_below hg);have hR:Hid (w1.heap.size≤w2.heap.size):=Nat.le_trans g9.o.size hg.size;have G2:Hid (∀u∈(#[.int .i64 i,.slice A3 q d,.bool bb]:Array Value).toList,u.oneCell'=true):=k0e _ _ _ _ _;clear hz hg hx)
        |(at_builtin;refine dx (size:=3) (bytes:=40) (base:=w1.heap.size) (news:= #[.int .i64 i,.slice A3 q d,.bool bb]) rfl rfl Tryz.underlying48 D9 rfl G4.o gZ.o rfl hR.o rfl rfl rfl G2.o G3.o.1 G3.o.2.1 ?_;intro A5 c5 w5 hK hs hS;have gb:=h_ ((ON.o.fresh_below hC.o).apart hs gL.o);have gQ:Hid (w1.heap.size≤w5.heap.size):=Nat.le_trans hR.o hs.size)
        |(at_builtin;refine dx (size:=1) (bytes:=8) (base:=w1.heap.size) (news:= #[.int .i64 N]) rfl rfl Tryz.underlying41 ta rfl (Nat.le_refl 1) gb.o rfl gQ.o rfl rfl rfl ?_ G3.o.2.2.1 G3.o.2.2.2 ?_;simp [Value.oneCell'];intro A6 c6 w6 gw g7 gN))
       obtain⟨F5,e5,e6⟩:=gs.o w2 w5 w6 q d c5 c6 A3 A5 A6 hC.o gC.o g5.o hs hK hS g7 gw gN;have HF:=h_ F5;have HE:=h_ e5;have gJ:=h_ e6;clear F5 e5 e6;go_roundw
       case rel=>exact⟨i+1,_,_,_,_,A5,c5,A6,c6,by omega,by go_num,by rw [HE.o],by rw [gJ.o],rfl,(by have hmx:max m N=(if m<N then N else m):=(by omega);rw [hmx];exact HF.o)⟩
       case measure=>(simp [intOf];try omega)
      ·have hF:scO (ar cs ws i)=false:=by simpa using ho
       have HO:=h_ hF;rw [hF]at HL;have gI:=h_ (fun w1' h1=> @c0u cs ws a m w1 wq w1' i c1 c2 js ns vs A1 A2 hP.o H2.o hv.o HO.o h1);clear ho hF;go_wp2_with(go_at_call 66;refine HL.o.mono ?_;rintro e w2 ⟨A3,q,d,rfl,hz,hg,hx⟩;have hC:=h_ hg;clear hz hg hx);have HF:=h_ (gI.o w2 hC.o);go_roundw
       case rel=>exact⟨i+1,js,ns,vs,m,A1,c1,A2,c2,by omega,by go_num,rfl,rfl,rfl,HF.o⟩
       case measure=>(simp [intOf];try omega)
    ·obtain rfl:i=cs.length:=by omega
     have j1:¬(cs.length:Int) < (cs.length:Int):=by omega
     obtain⟨e1,e2⟩:=c0w hP.o;subst e2;have hW:=h_ e1;have g4:=h_ hP.o.nums;have gT:=h_ hP.o.ens;have gG:=h_ (hP.o.own.rows (enc:=EnV.cells) (k:=3) (fun _=>rfl) (by decide));have gW:=h_ (qb hP.o.own');have xs:(vs.length:Int)≤128:=by have:=hP.o.few;have:=rv hP.o.ens;omega
     have hU:Hid (Below w.heap.size w wq):=hh.o.trans ((hj.o.trans (hP.o.below.mono hj.o.size)).mono hh.o.size);have gP:=h_ (Gg (cs:=cs) (ws:=ws) (a:=a) (by omega));clear e1 hP HN HC hi hlt;have J0:=h_ (Ps cs ws a wq);go_wp2;go_loopw [16,17] (fun v16 v17 wr=>∃(t:Nat) (js:List Nat) (vs:List EnV) (A:Option Addr) (c:Nat),Hid (t≤4294967296)∧v17= .int .i64 (a+1+(t:Int))∧v16= .slice A vs.length c∧Hid (RnJ cs ws a wq t js vs A c wr)) (fun _ v17 _=>(4294967298+a-intOf v17).toNat)
     case atStart=>exact⟨0,[],[],none,0,zl,by go_num,rfl,J0.o⟩
     case round=>
      obtain⟨t,hc,he,A3,c3,ht,rfl,rfl,hJ⟩:=hrel;obtain⟨wz,rfl⟩:∃z:World,z=wr:=⟨_,rfl⟩;clear J0;have HT:=h_ (hJ.o.top);have x3:(t:Int)≤4294967296:=by have:=ht.o;omega
      have x0:(he.length:Int)≤4294967296:=by have:=Pt hJ.o ⟨g8,ga⟩;omega
      have hV:=h_ (rv hJ.o.ens);have hM:=h_ (gW.o.below hJ.o.below);have hn:=h_ hJ.o.below;cases hff:ff (lgN cs ws) 2 (cs.length-2) (a+1+(t:Int))with
      |none=>
       have HX:Hid ((a+1+(t:Int))∉ns):=Sb g4.o (by rw [←hW.o];exact hff);have hG:=h_ (t0v A2 ns.length c2 ns (a+1+(t:Int)) _ wz hM.o HX.o);have HE:=h_ (Gp hJ.o hff);have hA:=h_ (hJ.o.own.rows (enc:=EnV.cells) (k:=3) (fun _=>rfl) (by decide));have hZ:=h_ (th hn.o.size hn.o hJ.o.ens);clear hff hJ;have K0:Hid (stp (lgB cs ws) (hc.take he.length)=jh cs ws a):=by simp only [Hid,jh];rw [←hV.o,List.take_length,HE.o]
       have xA:(he.length:Int)≤(c3:Int):=by have:=hA.o.le;omega
       have gY:=h_ hA.o.top;go_wp2_with(go_at_call 67;refine hG.o.mono ?_;rintro e w' ⟨rfl,rfl⟩);go_loop [16] (fun v16=>∃u:Nat,u≤he.length∧v16= .slice A3 u c3∧Hid (stp (lgB cs ws) (hc.take u)=jh cs ws a)) (fun v16=>O9 v16)
       case atStart=>exact⟨he.length,Nat.le_refl _,rfl,K0.o⟩
       case round=>
        obtain⟨u,hu,rfl,HK⟩:=hrel;have g6:Hid (Below w.heap.size w w'):=hU.o.trans (hn.o.mono hU.o.size)
        have hQ:Hid (hc.take u=jh cs ws a→Ap cs ws a w (.returned (.tuple #[.slice A3 u c3,.int .i64 (dr cs ws a),.int .i64 0])) w'):=fun h=> .inr ⟨F.o,⟨A3,u,c3,he.take u,rfl,Ph hA.o hu (by omega) gY.o,by rw [←h];exact K5 u hZ.o⟩,g6.o⟩
        rcases Nat.eq_zero_or_pos u with h0|h0
        ·subst h0;have F2:=h_ (hQ.o (by rw [←HK.o,List.take_zero];rfl));go_wp2;go_ret3;exact F2.o
        ·obtain⟨p,rfl⟩:∃p,u=p+1:=⟨u-1,by omega⟩;obtain⟨j,ej⟩:∃j,hc[p]?=some j:=⟨_,gE (show p <hc.length by have:=hV.o;omega)⟩;obtain⟨v,g1,k1⟩:=zx hZ.o ej;obtain⟨b,o,rfl,gK,p0,p1,p2⟩:=Vt hA.o g1
         have et:hc.take (p+1)=hc.take p++[j]:=by obtain⟨hp,rfl⟩:=gS.1 ej;rw [List.take_succ_eq_append_getElem hp]
         have hY:=h_ et;have hD:Hid (v.b=lgB cs ws j):=k1.last;obtain⟨vi,vA,vn,vc,vb⟩:=v;simp only at p0 p1 p2 hD;have q1:(p:Int)+1≤(he.length:Int):=by omega
         have q2:(0:Int) < (p:Int)+1:=by omega
         clear ej g1 k1 et p0 p1;cases vb
         ·have gM:Hid (stp (lgB cs ws) (hc.take p)=jh cs ws a):=by simp only [Hid];rw [←HK.o,hY.o,O4 hD.o.symm]
          go_wp2;go_round
          case rel=>exact⟨p,by omega,by go_num,gM.o⟩
          case measure=>(simp [O9];try omega)
         ·have F2:=h_ (hQ.o (by rw [←HK.o,hY.o,O3 hD.o.symm]));go_wp2;go_ret3;exact F2.o
      |some j=>
       obtain⟨p,g0,g1,g2⟩:=S8 g4.o ((hW.o _).symm.trans hff);obtain⟨v,g3,hX⟩:=zx gT.o g0;have hG:=h_ (t0u A2 ns.length c2 ns (a+1+(t:Int)) _ wz hM.o (List.mem_of_getElem? g1))
       have gD:Hid (Calls Tryz.prog 68 #[.slice A2 ns.length c2,.int .i64 (a+1+(t:Int))] wz fun e w'=>e= .returned (.int .i64 (p:Int))∧w'=wz):=
        (Jb A2 ns.length c2 ns (a+1+(t:Int)) _ wz hM.o).mono fun e w' ⟨⟨i,h,hi⟩,hw⟩=>⟨by rw [h,o0k hi g1 g2],hw⟩
       obtain⟨b,o,rfl,gK,p0,p1,p2⟩:=Vt (gG.o.below hn.o) g3;have x6:(p:Int) < (vs.length:Int):=by have:=(gS.1 g3).1;omega
       have gF:=h_ hX;have gU:=h_ hff;have hv:=h_ (Gn hff);have OW:=h_ hJ.o.own;obtain⟨vi,vA,vn,vc,vb⟩:=v;simp only at p0 p1 p2;have G2:Hid (∀u∈(#[.int .i64 vi,.slice vA vn vc,.bool vb]:Array Value).toList,u.oneCell'=true):=by simp [Hid,Value.oneCell']
       have G3:Hid (he.length+1≤maxLen∧(he.length+1)*40≤140737488355328):=by unfold maxLen;simp only [Hid];omega
       have G4:Hid (0 <3):=by simp [Hid]
       have gX:Hid (t+1≤4294967296):=by have:=hv.o;have:=gP.o;simp only [Hid];omega
       have gB:=h_ (fun(w5:World) (A4:Option Addr) (c4:Nat) (row:Option Nat) hl hown=> @Pu cs ws a wq wz wz w5 t j hc he A3 A4 c3 c4 ⟨vi,vA,vn,vc,vb⟩ row hJ.o gU.o gF.o hn.o hl hown);clear hff g0 g1 g2 g3 hX hJ
       go_wp2_with(first
        |(go_at_call 67;refine hG.o.mono ?_;rintro e w' ⟨rfl,hw⟩;rw [hw];clear hw)
        |(go_at_call 68;refine gD.o.mono ?_;rintro e w' ⟨rfl,hw⟩;rw [hw];clear hw)
        |(at_builtin;refine dx (size:=3) (bytes:=40) (base:=wq.heap.size) (news:= #[.int .i64 vi,.slice vA vn vc,.bool vb]) rfl rfl Tryz.underlying48 D9 rfl G4.o OW.o rfl hn.o.size rfl rfl rfl G2.o G3.o.1 G3.o.2 ?_;intro A4 c4 w5 hK hs hS))
       obtain⟨F5,e5⟩:=gB.o w5 A4 c4 _ hs hK;have HF:=h_ F5;have HE:=h_ e5;clear F5 e5;go_roundw
       case rel=>exact⟨t+1,hc++[j],_,A4,c4,gX.o,lw (by omega),by rw [HE.o],HF.o⟩
       case measure=>(simp [intOf];try omega)
 ·have F:=h_ (Oq (a:=a) hd);generalize hE:au cs ws=E at*;have x5:(E !=0)=true:=bN hd;have HD:=h_ hd;clear hd hE;go_enter Tryz.func35,Tryz.ntmps35;go_wp2_with(go_at_call 15;rw [←hy.o];refine hm.o.mono ?_;rintro e w1 ⟨rfl,hf⟩);go_ret3;exact .inl ⟨by rw [F.o];exact HD.o,by rw [F.o];rfl,hh.o.trans (hf.mono hh.o.size)⟩
end
section
open Go.RowKit
theorem Rh(W:World)(o:Obj)(B size:Nat)(hB:B≤W.heap.size):af (W.alloc o) B size (.slice (some ⟨W.heap.size,0,none⟩) 0 0) 0 []:=
 ⟨by simp,.inr ⟨W.heap.size,0,0,rfl,hB,by simp,Nat.le_refl _,zl,fun j u h=>by simp at h,fun j h=>by omega⟩⟩
theorem Pa{P:Program}(w:World)(t e:TypeId)(a:Option Addr)(n c n' c':Nat)(h:P.underlying t=some (.slice e)):(binOp .eql t (.slice a n c) (.slice none n' c')).run P w= .ok (.bool a.isNone) w:=by simp only [binOp];simp [Op.equal,Op.maxDepth,Lib.run_equalIn_slice_nil w 9999 t e a n c n' c' h]
theorem u0f(A:Option Addr)(n c:Nat)(xs:List aa)(B:Nat)(w:World)(r:ab w B A n c aa.cells 2 xs)(hB:B≤w.heap.size)(h0:0 <n)(hn:n≤1000):Calls Tryz.prog 36 #[.slice A n c] w fun e w'=>∃D d,e= .returned (.slice D n d)∧af w' w.heap.size 2 (.slice D n d) n (xs.flatMap aa.cells)∧Below w.heap.size w w':=by
 obtain⟨b,o,rfl,hb⟩:=ur r h0;have h4:=r.len;subst h4;have R:=h_ r;have L1:Hid ((xs.flatMap aa.cells).length=xs.length*2):=by simp only [Hid];rw [wu];omega
 have M1:Hid (∀u∈xs.flatMap aa.cells,u.oneCell'=true):=fun u hu=>by obtain⟨y,_,hy⟩:=List.mem_flatMap.1 hu;simp [aa.cells]at hy;rcases hy with rfl|rfl<;>rfl
 have h7:=fun W:World=>Pa (P:=Tryz.prog) W 40 89 (some ⟨b,o,none⟩) xs.length c 0 0 Tryz.underlying40
 have h5:Hid (∀W,Below w.heap.size w W→B≤w.heap.size→∀j u,(xs.flatMap aa.cells)[j]?=some u→W.cell? (Addr.add ⟨b,o,none⟩ j)=some u):=fun W h hB=>V7 (r.below (h.mono hB))
 clear r;go_enter Tryz.func36,Tryz.ntmps36;have h2:Hid (Below w.heap.size w (w.alloc (.cells #[] 89))):=br.alloc ler _;go_wp2_with(at_builtin;refine Ba rfl rfl Tryz.underlying40 t7 rfl (by omega) (Rh w _ w.heap.size 2 ler) rfl (by simp) rfl (xs.flatMap aa.cells) L1.o (h5.o _ h2.o hB) M1.o ?_ ?_ ?_;(unfold maxLen;omega);omega;intro A3 c3 w3 h1 h3 h6);simp only [Nat.zero_add,List.nil_append]at h1;go_ret;exact⟨A3,c3,rfl,h1,h3.below ler h2.o⟩
theorem u0g(A:Option Addr)(n c:Nat)(xs:List Int)(B:Nat)(w:World)(r:ab w B A n c (fun z=>[.int .i64 z]) 1 xs)(hB:B≤w.heap.size)(h0:0 <n)(hn:n≤1000):Calls Tryz.prog 37 #[.slice A n c] w fun e w'=>∃D d,e= .returned (.slice D n d)∧af w' w.heap.size 1 (.slice D n d) n (xs.map (Value.int .i64))∧Below w.heap.size w w':=by
 obtain⟨b,o,rfl,hb⟩:=ur r h0;have h4:=r.len;subst h4;have R:=h_ r;have L1:Hid ((xs.map (Value.int .i64)).length=xs.length*1):=by simp [Hid]
 have M1:Hid (∀u∈xs.map (Value.int .i64),u.oneCell'=true):=fun u hu=>by obtain⟨y,_,rfl⟩:=List.mem_map.1 hu;rfl
 have h7:=fun W:World=>Pa (P:=Tryz.prog) W 41 3 (some ⟨b,o,none⟩) xs.length c 0 0 Tryz.underlying41
 have h5:Hid (∀W,Below w.heap.size w W→B≤w.heap.size→∀j u,(xs.map (Value.int .i64))[j]?=some u→W.cell? (Addr.add ⟨b,o,none⟩ j)=some u):=fun W h hB=>Pm (r.below (h.mono hB))
 clear r;go_enter Tryz.func37,Tryz.ntmps37;have h2:Hid (Below w.heap.size w (w.alloc (.cells #[] 3))):=br.alloc ler _;go_wp2_with(at_builtin;refine Ba rfl rfl Tryz.underlying41 ta rfl (by omega) (Rh w _ w.heap.size 1 ler) rfl (by simp) rfl (xs.map (Value.int .i64)) L1.o (h5.o _ h2.o hB) M1.o ?_ ?_ ?_;(unfold maxLen;omega);omega;intro A3 c3 w3 h1 h3 h6);simp only [Nat.zero_add,List.nil_append]at h1;go_ret;exact⟨A3,c3,rfl,h1,h3.below ler h2.o⟩
theorem Bu{P:Program}{fn:Func}{p u1 u2 u3:Tmp}{ty:TypeId}(h:fn.results= #[.cell p ty,.tmp u1,.tmp u2,.tmp u3])(tmps:Array Value)(w:World)(g:Nat)(t:TypeId)(cs:Array Value)(fr:Nat×Nat)(d:TypeDesc)(hp:tmps.getD p undef= .pointer (some ⟨g,0,none⟩))(hg:w.heap[g]?=some (.cells cs t fr))(hu:P.underlying ty=some d)(hd:(match d with| .struct _| .array _ _=>true|_=>false)=true)(hi:(P.info? ty).map (·.size)=some cs.size):(results fn tmps).run P w= .ok (.tuple #[.agg cs,tmps.getD u1 undef,tmps.getD u2 undef,tmps.getD u3 undef]) w:=by
 have h0:tmps[p]?.getD undef= .pointer (some ⟨g,0,none⟩):=by simpa using hp
 simp [results,h,h0,asAddr,run_loadVar_row w g t ty cs fr d hg hu hd hi]
structure MpS(lo Mb:Nat)(tm:TypeId)(w0:World)(ga oa ca gg og cg:Nat)(m:List aa×List Int)(W:World):Prop where
 below:Below lo w0 W
 box:W.heap[Mb]?=some (.cells #[.slice (some ⟨ga,oa,none⟩) 48 ca,.slice (some ⟨gg,og,none⟩) 48 cg] tm (0,0))
 oa:af W lo 2 (.slice (some ⟨ga,oa,none⟩) 48 ca) 48 (m.1.flatMap aa.cells)
 og:af W lo 1 (.slice (some ⟨gg,og,none⟩) 48 cg) 48 (m.2.map (Value.int .i64))
 lm:lo≤Mb
 na:ga≠Mb
 ng:gg≠Mb
 ne:ga≠gg
 ok:bu m.1 m.2=0
section
variable {lo Mb:Nat} {tm:TypeId} {w0:World} {ga oa ca gg og cg:Nat} {m:List aa×List Int} {W W':World}
theorem MpS.lt(h:MpS lo Mb tm w0 ga oa ca gg og cg m W):lo≤ga∧lo≤gg∧ga <W.heap.size∧gg <W.heap.size∧Mb <W.heap.size:=by obtain⟨h1,h2⟩:=h.oa.lt ga rfl;obtain⟨h3,h4⟩:=h.og.lt gg rfl;exact⟨h1,h3,h2,h4,ag h.box⟩
theorem MpS.go(h:MpS lo Mb tm w0 ga oa ca gg og cg m W)(hb:Below W.heap.size W W'):MpS lo Mb tm w0 ga oa ca gg og cg m W':=
 {below:=h.below.trans (hb.mono (by have:=h.lt;omega)),box:=ah h.box (ag h.box) hb,oa:=h.oa.fresh_below hb,og:=h.og.fresh_below hb,lm:=h.lm,na:=h.na,ng:=h.ng,ne:=h.ne,ok:=h.ok}
theorem MpS.alloc(h:MpS lo Mb tm w0 ga oa ca gg og cg m W)(o:Obj):MpS lo Mb tm w0 ga oa ca gg og cg m (W.alloc o):=h.go (br.alloc ler o)
theorem MpS.cells(h:MpS lo Mb tm w0 ga oa ca gg og cg m W){n:Nat}(hn:n <48):∃p g,m.1[n]?=some p∧m.2[n]?=some g∧dk p.Cell p.Nth=true∧0≤g∧g≤2147483647∧
 W.cell? ⟨ga,oa+n*2,none⟩=some (.int .i64 p.Cell)∧W.frozen? ⟨ga,oa+n*2,none⟩=false∧W.cell? ⟨ga,oa+n*2+1,none⟩=some (.int .i64 p.Nth)∧W.frozen? ⟨ga,oa+n*2+1,none⟩=false∧
 W.cell? ⟨gg,og+n,none⟩=some (.int .i64 g)∧W.frozen? ⟨gg,og+n,none⟩=false:=by
 obtain⟨p,g,e1,e2,e3,e4,e5⟩:=(p7 h.ok).2.2 n hn
 refine⟨p,g,e1,e2,e3,e4,e5,?_⟩
 have a0:=nw (enc:=aa.cells) (k:=2) (fun _=>rfl) m.1 n p e1 0 _ rfl
 have a1:=nw (enc:=aa.cells) (k:=2) (fun _=>rfl) m.1 n p e1 1 _ rfl
 have g0:(m.2.map (Value.int .i64))[n]?=some (.int .i64 g):=by rw [List.getElem?_map,e2];rfl
 obtain⟨_,_,_,f1,_,_,f2,f3⟩:=h.oa.at_ a0
 obtain⟨_,_,_,f4,_,_,f5,f6⟩:=h.oa.at_ a1
 obtain⟨_,_,_,f7,_,_,f8,f9⟩:=h.og.at_ g0
 injection f1 with f1 _ _;injection f1 with f1;injection f1 with x1 x2 _;subst x1;subst x2
 injection f4 with f4 _ _;injection f4 with f4;injection f4 with x1 x2 _;subst x1;subst x2
 injection f7 with f7 _ _;injection f7 with f7;injection f7 with x1 x2 _;subst x1;subst x2
 exact⟨f2,f3,f5,f6,f8,f9⟩
theorem MpS.set(h:MpS lo Mb tm w0 ga oa ca gg og cg m W){n:Nat}{p:aa}(hok:bu (m.1.set n p) m.2=0):MpS lo Mb tm w0 ga oa ca gg og cg (m.1.set n p,m.2) ((W.setCell ⟨ga,oa+n*2,none⟩ (.int .i64 p.Cell)).setCell ⟨ga,oa+n*2+1,none⟩ (.int .i64 p.Nth)):=by
 have hl:=h.lt
 exact {below:=(h.below.setCell (p:=⟨ga,oa+n*2,none⟩) hl.1 _).setCell (p:=⟨ga,oa+n*2+1,none⟩) hl.1 _,box:=cp (cp h.box (fun e=>h.na e.symm)) (fun e=>h.na e.symm),
        oa:=by have:=(h.oa.set (n*2) (.int .i64 p.Cell)).set (n*2+1) (.int .i64 p.Nth);rw [Dj]at this;exact this,
        og:=(h.og.setOther (p:=⟨ga,oa+n*2,none⟩) (fun e=>by injection e with e;exact h.ne e.symm) _).setOther (p:=⟨ga,oa+n*2+1,none⟩) (fun e=>by injection e with e;exact h.ne e.symm) _,
        lm:=h.lm,na:=h.na,ng:=h.ng,ne:=h.ne,ok:=hok}
theorem MpS.gen(h:MpS lo Mb tm w0 ga oa ca gg og cg m W){n:Nat}{p:aa}{z:Int}(hok:bu (m.1.set n p) (m.2.set n z)=0):MpS lo Mb tm w0 ga oa ca gg og cg (m.1.set n p,m.2.set n z) (((W.setCell ⟨ga,oa+n*2,none⟩ (.int .i64 p.Cell)).setCell ⟨ga,oa+n*2+1,none⟩ (.int .i64 p.Nth)).setCell ⟨gg,og+n,none⟩ (.int .i64 z)):=by
 have hl:=h.lt
 exact {below:=((h.below.setCell (p:=⟨ga,oa+n*2,none⟩) hl.1 _).setCell (p:=⟨ga,oa+n*2+1,none⟩) hl.1 _).setCell (p:=⟨gg,og+n,none⟩) hl.2.1 _,box:=cp (cp (cp h.box (fun e=>h.na e.symm)) (fun e=>h.na e.symm)) (fun e=>h.ng e.symm),
        oa:=by have:=(h.oa.set (n*2) (.int .i64 p.Cell)).set (n*2+1) (.int .i64 p.Nth);rw [Dj]at this;exact this.setOther (p:=⟨gg,og+n,none⟩) (fun e=>by injection e with e;exact h.ne e) _,
        og:=by have:=((h.og.setOther (p:=⟨ga,oa+n*2,none⟩) (fun e=>by injection e with e;exact h.ne e.symm) (.int .i64 p.Cell)).setOther (p:=⟨ga,oa+n*2+1,none⟩) (fun e=>by injection e with e;exact h.ne e.symm) (.int .i64 p.Nth)).set n (.int .i64 z);rw [←List.map_set]at this;exact this,
        lm:=h.lm,na:=h.na,ng:=h.ng,ne:=h.ne,ok:=hok}
end
end
end Go.Proofs.YtcldpfhpkbeaiadGreat
