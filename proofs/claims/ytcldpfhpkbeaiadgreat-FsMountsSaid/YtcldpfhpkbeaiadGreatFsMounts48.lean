/- A part of the proof of FsMounts. No condition of ours. -/
import Derived.Test.YtcldpfhpkbeaiadGreatFsMounts45
set_option maxRecDepth 100000
set_option maxHeartbeats 8000000
namespace Go.Proofs.YtcldpfhpkbeaiadGreat
open Go.RowKit
theorem Oz{cs:List ByteArray}{a:Int}{w:World}{f:FuncId}{args:Array Value}(h:Calls Tryz.prog f args w (Ap cs [] a w))(hr:kj cs [] a=0):Calls Tryz.prog f args w fun e w'=>∃A n c vs,e= .returned (.tuple #[.slice A n c,.int .i64 (dr cs [] a),.int .i64 0])∧ab w' w'.heap.size A n c EnV.cells 3 vs∧jx cs [] w' w'.heap.size (jh cs [] a) vs∧Below w.heap.size w w':=
 h.mono fun _ _ h=>by
  rcases h with⟨h,_⟩|⟨_,⟨A,n,c,vs,h1,h2,h3⟩,h4⟩
  ·exact absurd hr h
  ·exact⟨A,n,c,vs,h1,h2,h3,h4⟩
theorem Zs{b:Nat}{cs:List ByteArray}{xs:List aa}{gs fr:List Int}{os:List OpD}{v:FsV}{w:World}{f:FuncId}{args:Array Value}(h:Calls Tryz.prog f args w (xq b cs xs gs fr os v w))(hr:ea cs xs gs):Calls Tryz.prog f args w fun e w'=>e= .returned (.int .i64 0)∧Below w.heap.size w w'∧FsT b cs [] xs gs fr os v w':=
 h.mono fun _ _ h=>by
  rcases h with⟨h1,⟨_,h2,h3⟩|⟨h2,_⟩⟩
  ·exact⟨h2,h1,h3⟩
  ·exact absurd hr h2
theorem Zt{b:Nat}{cs:List ByteArray}{xs:List aa}{gs fr:List Int}{os:List OpD}{v:FsV}{w:World}{f:FuncId}{args:Array Value}(h:Calls Tryz.prog f args w (xq b cs xs gs fr os v w))(hr:¬ea cs xs gs):Calls Tryz.prog f args w fun e w'=>e= .returned (.int .i64 18)∧Below w.heap.size w w':=
 h.mono fun _ _ h=>by
  rcases h with⟨h1,⟨h2,_,_⟩|⟨_,h2⟩⟩
  ·exact absurd h2 hr
  ·exact⟨h2,h1⟩
theorem b0j{b:Nat}{cs:List ByteArray}{ws:List ae}{xs:List aa}{gs:List Int}{ser t:Int}{w:World}{f:FuncId}{args:Array Value}(h:Calls Tryz.prog f args w (s7 b cs ws xs gs ser t w))(hr:syE cs ws xs gs ser t=0):Calls Tryz.prog f args w fun e w'=>e= .returned (.int .i64 0)∧Below b w w'∧∃v fr os,FsT b (syX cs ws xs gs ser t) [] xs gs fr os v w':=
 h.mono fun _ _ ⟨h1,h2,h3⟩=>⟨by rw [h1,hr],h2,h3 hr⟩
theorem b0m{b:Nat}{cs:List ByteArray}{ws:List ae}{xs:List aa}{gs:List Int}{ser t:Int}{w:World}{f:FuncId}{args:Array Value}(h:Calls Tryz.prog f args w (s7 b cs ws xs gs ser t w)):Calls Tryz.prog f args w fun e w'=>e= .returned (.int .i64 (syE cs ws xs gs ser t))∧Below b w w':=h.mono fun _ _ ⟨h1,h2,_⟩=>⟨h1,h2⟩
def MtM(cs:List ByteArray)(X0:List aa)(Y0:List Int)(z tn:Int)(w5:World)(s:Value)(wx:World):Prop:=∃M v,s= .pointer (some ⟨M,0,none⟩)∧Hid (RpS M cs (X0,Y0) [] [] z tn 0 wx wx v)∧Hid (Below w5.heap.size w5 wx∧w5.heap.size≤M)
theorem k0w{cs:List ByteArray}{X0:List aa}{Y0:List Int}{z tn:Int}{w5 w6:World}{A3 D D':Option Addr}{c3 q d q' d':Nat}(hb:Below w5.heap.size w5 w6)(ho:ab w6 w6.heap.size A3 cs.length c3 (fun z=>[.string z]) 1 cs)(h5:ab w6 w6.heap.size D q d aa.cells 2 X0)(h6:ab w6 w6.heap.size D' q' d' (fun z=>[.int .i64 z]) 1 Y0):MtM cs X0 Y0 z tn w5 (.pointer (some ⟨w6.heap.size,0,none⟩)) (w6.alloc (.cells #[.slice A3 cs.length c3,.slice none 0 0,.slice D q d,.slice D' q' d',.int .i64 z,.int .i64 tn,.slice none 0 0,.slice none 0 0] 55)):=
 ⟨w6.heap.size,_,rfl,{fs:=q0k ho h5 h6,below:=br,oA:=rfl,fA:=rfl,ser:=rfl,tur:=rfl,on:=rfl},hb.alloc hb.size _,hb.size⟩
theorem RpS.turn{b:Nat}{cs:List ByteArray}{m:List aa×List Int}{fr:List Int}{os:List OpD}{z t:Int}{on:Nat}{w w1 W:World}{v:FsV}(h:RpS b cs m fr os z t on w1 W v)(hb:Below b w w1):RpS b cs m fr os z t on w W v:= {h with below:=hb.trans h.below}
theorem k0y(A:Option Addr)(n c:Nat)(cs:List ByteArray)(A':Option Addr)(n' c':Nat)(ws:List ae)(w:World)(r:ab w w.heap.size A n c (fun z=>[.string z]) 1 cs)(r':ab w w.heap.size A' n' c' ae.cells 2 ws):Calls Tryz.prog 4 #[.agg #[.slice A n c,.slice A' n' c']] w (pj cs ws w):=by
 have gN:=r.len;subst gN;have gC:=r'.len;subst gC;obtain⟨wa,hz⟩:∃wa,wa=w.alloc (.cells #[.slice A cs.length c,.slice A' ws.length c'] 25):=⟨_,rfl⟩;have hP:Below w.heap.size w wa:=by rw [hz];exact br.alloc ler _
 have hK:wa.heap[w.heap.size]?=some (.cells #[.slice A cs.length c,.slice A' ws.length c'] 25 (0,0)):=by rw [hz];exact A_ w _
 have h0:Hid (∀W,Below wa.heap.size wa W→Below w.heap.size w W∧W.cell? ⟨w.heap.size,0,none⟩=some (.slice A cs.length c)∧W.cell? ⟨w.heap.size,1,none⟩=some (.slice A' ws.length c')∧ab W W.heap.size A cs.length c (fun z=>[.string z]) 1 cs∧ab W W.heap.size A' ws.length c' ae.cells 2 ws):=h_ fun W hW=>by have hb:Below w.heap.size w W:=hP.trans (hW.mono hP.size);have e:=ah hK (ag hK) hW;exact⟨hb,aj e 0,aj e 1,(r.below hb).more hb.size,(r'.below hb).more hb.size⟩
 obtain⟨_,v0,v1,ra,hT⟩:=h0.o wa br;have hg:=h_ (xe A _ c cs A' _ c' ws wa ra hT);have hx:=h_ hz;have ha:Hid (∀E w',mtE cs ws=E→E≠0→Below w.heap.size w w'→pj cs ws w (.returned (.tuple #[.pointer none,.int .i64 E])) w'):=h_ fun E w' h1 h2 h3=>⟨h3,.inr ⟨by rw [h1];exact h2,by rw [h1]⟩⟩
 clear r r' hP hK hz ra hT;by_cases hd:au cs ws=0
 ·rw [hd]at hg;by_cases hws:ws=[]
  ·subst hws;simp only [List.length_nil]at h0 hg v1 hx;have hp:Hid (∀W,Below wa.heap.size wa W→Calls Tryz.prog 10 #[.agg #[.slice A cs.length c,.slice A' 0 c']] W (qv cs [] W)):=h_ fun W hW=>k0q A _ c cs A' _ c' [] W (h0.o W hW).2.2.2.1 (h0.o W hW).2.2.2.2
   by_cases hn:nwE cs []=0
   ·unfold qv at hp;rw [hn]at hp
    have hY:prE (nwU cs [])=0:=by
     by_cases h2:prE (nwT cs [])=0
     ·rw [(ve hd h2).2];exact h2
     ·rw [(vf hd h2).1]at hn;cases hn
    obtain⟨q1,q2,q3,q4⟩:=Gy (nwU cs []);have hU:Hid (∀W,Below wa.heap.size wa W→Calls Tryz.prog 11 #[.agg #[.slice A cs.length c,.slice A' 0 c'],.int .i64 (prS (nwU cs []))] W (Ap cs [] (prS (nwU cs [])) W)):=h_ fun W hW=>e0f A _ c cs A' _ c' [] _ W (h0.o W hW).2.2.2.1 (h0.o W hW).2.2.2.2
    have hs:kj cs [] (prS (nwU cs []))=0:=yn hd (by omega);have hR:Hid (∀W,Below wa.heap.size wa W→Calls Tryz.prog 11 #[.agg #[.slice A cs.length c,.slice A' 0 c'],.int .i64 (prS (nwU cs []))] W fun e w'=>∃A n c vs,e= .returned (.tuple #[.slice A n c,.int .i64 (dr cs [] (prS (nwU cs []))),.int .i64 0])∧ab w' w'.heap.size A n c EnV.cells 3 vs∧jx cs [] w' w'.heap.size (jh cs [] (prS (nwU cs []))) vs∧Below W.heap.size W w'):=h_ fun W hW=>Oz (hU.o W hW) hs
    obtain⟨q5,q6⟩:=On (cs:=cs) q4;have gM:Hid (jk cs (jh cs [] (prS (nwU cs []))) (prP (nwU cs []),prG (nwU cs []))=none→mtE cs []=18):=h_ fun h=>St hd hn hs h
    have gg:Hid (∀m,jk cs (jh cs [] (prS (nwU cs []))) (prP (nwU cs []),prG (nwU cs []))=some m→(¬ea cs m.1 m.2→mtE cs []=18)∧(ea cs m.1 m.2→mtE cs []=syE cs [] m.1 m.2 (dr cs [] (prS (nwU cs []))) (prN (nwU cs [])))):=h_ fun m h=>Ss hd hn hs h
    have gD:Hid (∀b m v fr os w',mtE cs []=0→jk cs (jh cs [] (prS (nwU cs []))) (prP (nwU cs []),prG (nwU cs []))=some m→ea cs m.1 m.2→FsT b (syX cs [] m.1 m.2 (dr cs [] (prS (nwU cs []))) (prN (nwU cs []))) [] m.1 m.2 fr os v w'→Below w.heap.size w w'→pj cs [] w (.returned (.tuple #[.pointer (some ⟨b,0,none⟩),.int .i64 0])) w'):=h_ fun b m v fr os w' h1 h2 h3 h4 h5=>⟨h5,.inl ⟨h1,b,m,v,fr,os,rfl,h2,h3,h4⟩⟩
    have gP:Hid ((prP (nwU cs [])).length=48∧(prG (nwU cs [])).length=48):=te (yv hY);generalize pj cs [] w=PP at*;generalize jh cs [] (prS (nwU cs []))=js at*;generalize dr cs [] (prS (nwU cs []))=z at*;generalize prS (nwU cs [])=ser at*;generalize prN (nwU cs [])=tn at*;generalize prP (nwU cs [])=X0 at*;generalize prG (nwU cs [])=Y0 at*;have HD:=h_ hd;have HQ:Hid (0≤tn∧tn≤2147483647∧0≤z∧z≤2147483647):=h_ ⟨q1,q2,by omega,q6⟩
    have hH:Hid (0 <1∧cs.length≤maxLen∧cs.length*16≤140737488355328):=by
     have h1:cs.length≤128:=by
      by_cases h2:cs.length=0∨128 <cs.length
      ·rw [Ka h2]at hd;cases hd
      ·omega
     unfold maxLen;simp only [Hid];omega
    have g1:Hid (∀z:ByteArray,([Value.string z]:List Value).length=1):=fun _=>rfl
    have g2:Hid (∀(z:ByteArray),∀u∈([Value.string z]:List Value),u.oneCell'=true):=fun z u hu=>by simp at hu;subst hu;rfl
    clear hd hn hs hY q1 q2 q3 q4 q5 q6 hU;go_enter Tryz.func4,Tryz.ntmps4
    go_wp2_with(first
     |(go_at_call 9;rw [←hx.o];refine hg.o.mono ?_;rintro e w1 ⟨rfl,h6⟩;have B1:=h_ h6;obtain⟨_,t0,t1,_,_⟩:=h0.o w1 h6;clear h6)
     |(go_at_call 10;refine(hp.o _ B1.o).mono ?_;rintro e w2 ⟨D,q,d,D',q',d',rfl,hC,hB,hc⟩;have R2:=h_ hC;have G2:=h_ hB;have B2:Hid (Below wa.heap.size wa (w2.alloc (.cells #[.int .i64 ser,.slice D q d,.slice D' q' d'] 45))):=h_ ((B1.o.trans (hc.mono B1.o.size)).alloc (Nat.le_trans B1.o.size hc.size) _);have X2:=h_ (A_ w2 (.cells #[.int .i64 ser,.slice D q d,.slice D' q' d'] 45));obtain⟨_,u0,u1,_,_⟩:=h0.o _ B2.o;have u2:=rc0 X2.o;clear hC hB hc)
     |(go_at_call 11;refine(hR.o _ B2.o).mono ?_;rintro e w5 ⟨LA,ln,lc,vs,rfl,g8,hV,hD⟩;have L5:=h_ g8;have E5:=h_ hV;have B5:Hid (Below wa.heap.size wa w5):=h_ (B2.o.trans (hD.mono B2.o.size));have X5:=h_ (ah X2.o (by simp) hD);have S5:=h_ hD;clear g8 hV hD))
    have gG:=L5.o.len;subst gG
    have hh:Hid (∀W,Below w5.heap.size w5 W→ab W W.heap.size A cs.length c (fun z=>[.string z]) 1 cs∧W.cell? ⟨w.heap.size,0,none⟩=some (.slice A cs.length c)∧W.cell? ⟨w2.heap.size,1,none⟩=some (.slice D q d)∧W.cell? ⟨w2.heap.size,2,none⟩=some (.slice D' q' d')∧ab W W.heap.size D q d aa.cells 2 X0∧ab W W.heap.size D' q' d' (fun z=>[.int .i64 z]) 1 Y0∧Below w.heap.size w W):=h_ fun W hW=>by obtain⟨k1,k2,_,k3,_⟩:=h0.o W (B5.o.trans (hW.mono B5.o.size));have e:=ah X5.o (ag X5.o) hW;exact⟨k3,k2,aj e 1,aj e 2,((iv R2.o _).below S5.o |>.more S5.o.size |>.below hW).more hW.size,((iv G2.o _).below S5.o |>.more S5.o.size |>.below hW).more hW.size,k1⟩
    have hQ:Hid (Below w5.heap.size w5 w5.drew):=br.drew;obtain⟨_,y0,y1,y2,_⟩:=hh.o _ br;clear t0 t1 u0 u1 u2;go_cut [10] (fun s10 wx=>MtM cs X0 Y0 z tn w5 s10 wx)
    case first=>
     go_region_law(refine yg rfl (.const (.slice none 0 0)) (.tmp 46) 22 rfl Tryz.underlying22 qf rfl hH.o.1 rfl rfl (hh.o _ hQ.o).1 g1.o g2.o hH.o.2.1 hH.o.2.2 ?_;intro A3 c3 w6 hX gL;have hM:Hid (Below w5.heap.size w5 w6):=h_ (hQ.o.trans gL);obtain⟨_,_,z1,z2,_⟩:=hh.o w6 hM.o)
     all_goals
      obtain⟨_,_,_,_,k5,k6,_⟩:=hh.o w6 hM.o;have gF:=h_ (k0w (z:=z) (tn:=tn) hM.o (af.rows (enc:=fun z:ByteArray=>[Value.string z]) (fun _=>rfl) (Nat.zero_lt_succ _) hX) k5 k6);clear k5 k6 hX;go_wp2_with fail;go_meet
      case rel=>exact gF.o
    case rest=>
     rename World=>wm
     obtain⟨M,v,rfl,HM,hw⟩:=hcut;have L6:=h_ (L5.o.below hw.o.1);have E6:=h_ (th ler hw.o.1 E5.o);have K7:=h_ (hh.o wm hw.o.1).2.2.2.2.2.2;have hk:Hid (w5.heap.size≤M∧w.heap.size≤M):=h_ ⟨hw.o.2,by have h1:=(h0.o w5 B5.o).1.size;have h2:=hw.o.2;omega⟩;have g4:=h_ (rv E5.o);have gT:(vs.length:Int)≤9223372036854775807:=by have h1:=L5.o.le;have h2:=L5.o.top;unfold maxLen at h2;omega
     clear y0 y1 y2 hh hQ B1 B2 X2 R2 G2 S5 X5 L5 E5 h0 hg hp hR;go_wp2;go_loopw [58] (fun v58 wr=>∃(i:Nat) (m:List aa×List Int) (v:FsV),i≤vs.length∧v58= .int .i64 i∧Hid (RpS M cs m [] [] z tn 0 wm wr v)∧Hid (m.1.length=48∧m.2.length=48)∧Hid (jk cs js (X0,Y0)=jk cs (js.drop i) m)) (fun v58 _=>vs.length- (intOf v58).toNat)
     case atStart=>exact⟨0,(X0,Y0),v,zl,rfl,HM.o,gP.o,h_ (by rw [List.drop_zero])⟩
     case round=>
      obtain⟨i,m,v,hi,rfl,HR,H8,hL⟩:=hrel;rename World=>wr
      clear HM;have gS:=h_ HR.o.below;by_cases hlt:i <vs.length
      ·have g0:i <js.length:=by have:=g4.o;omega
       obtain⟨j,hj⟩:∃j,js[i]?=some j:=⟨_,gE g0⟩;obtain⟨e,he,hF⟩:=zx E6.o hj;obtain⟨ei,eA,en,ec,eb⟩:=e;have gB:ei=(j:Int):=hF.at_;subst gB;obtain⟨ga,o,hA,_,hy⟩:=(L6.o.below (HR.o.below.mono hk.o.1)).at_ i _ he;have e0:wr.cell? ⟨ga,o+i*3,none⟩=some (.int .i64 j):=by simpa using hy 0 _ rfl
       have e1:wr.cell? ⟨ga,o+i*3+1,none⟩=some (.slice eA en ec):=hy 1 _ rfl;have e2:wr.cell? ⟨ga,o+i*3+2,none⟩=some (.bool eb):=hy 2 _ rfl;subst hA;have gI:(i:Int) < (vs.length:Int):=by omega
       obtain⟨wx,hJ⟩:∃wx,wx=wr.alloc (.cells #[.int .i64 j,.slice eA en ec,.bool eb] 58):=⟨_,rfl⟩;have hv:Below wr.heap.size wr wx:=by rw [hJ];exact br.alloc ler _
       have hf:=HR.o.go hv;have g5:ab wx wx.heap.size eA en ec bz.cells 4 (scL (ar cs [] j)):=((hF.rows.below (HR.o.below.mono hk.o.1)).more (by have h1:=HR.o.fs.lt;have h2:=hk.o.1;omega) |>.below hv).more hv.size;have HC:=h_ (g0k M cs m [] [] v j eA en ec eb (scL (ar cs [] j)) wx hf.fs hf.oA hf.fA g5 (da.of_rows hF.rows hk.o.1));have e5:v.ser=z:=hf.ser;have e6:v.tur=tn:=hf.tur;have e7:v.on=0:=hf.on;rw [e5,e6,e7]at HC;have hZ:=h_ hJ;have g6:Hid (Below M wm wx):=HR.o.below.trans (hv.mono (by have h1:=HR.o.fs.lt;omega));have HJ:=h_ hj;clear hy hj he hF g0 hv hf g5 e5 e6 e7 hJ;cases hr:ft j 0 (scL (ar cs [] j)) m with
       |none=>
        have gs:=h_ (e0w HC.o hr);have h7:=h_ (fun w' h=>ha.o 18 w' (gM.o (by rw [hL.o,Qc HJ.o hr])) (by decide) h);clear hr HC;go_wp2_with(rw [←hZ.o];refine gs.o.mono ?_;rintro e w8 ⟨E,rfl,g1,h9⟩;have B8:Hid (Below w.heap.size w w8):=h_ (K7.o.trans ((g6.o.trans h9).mono hk.o.2));clear h9);have HZ:=h7.o _ B8.o
        first|exact HZ|(go_ret;exact HZ)|(go_ret2;exact HZ)
       |some m1=>
        have gH:=h_ (e0v HC.o hr);have gQ:Hid (jk cs js (X0,Y0)=jk cs (js.drop (i+1)) m1):=h_ (by rw [hL.o,Qa HJ.o hr]);have H9:=h_ (Qd H8.o hr);have gK:=h_ (show i+1≤vs.length by omega);clear hr HC;go_wp2_with(rw [←hZ.o];refine gH.o.mono ?_;rintro e w8 ⟨rfl,v8,h8⟩;have gJ:=h_ (h8.turn g6.o);clear h8);go_roundw
        case rel=>exact⟨i+1,m1,v8,gK.o,by go_num,gJ.o,H9.o,gQ.o⟩
        case measure=>simp [intOf];omega
      ·have gI:¬(i:Int) < (vs.length:Int):=by omega
       have hm:jk cs js (X0,Y0)=some m:=by rw [hL.o];exact Qb (by have:=g4.o;omega)
       have HS:=gg.o m hm;have gb:=h_ (q0g M cs m.1 m.2 [] [] v wr HR.o.fs HD.o H8.o.1 H8.o.2);have hI:Hid (∀w',Below M wr w'→Below w.heap.size w w'):=h_ fun w' h=>K7.o.trans ((HR.o.below.trans h).mono hk.o.2)
       have hN:Hid (M <wr.heap.size):=HR.o.fs.lt;by_cases hW:ea cs m.1 m.2
       ·have hS:=h_ (Zs gb.o hW);have hE:=HS.2 hW
        have g7:Hid (∀W,FsT M cs [] m.1 m.2 [] [] v W→Calls Tryz.prog 14 #[.pointer (some ⟨M,0,none⟩)] W (s7 M cs [] m.1 m.2 z tn W)):=h_ fun W hW2=>by have h1:=HQ.o;have h2:=HR.o.tur;have h3:=HR.o.ser;have h4:=HR.o.on;have:=b0g M cs [] m.1 m.2 [] [] v W hW2 (by omega) (by omega) (by omega) (by omega) (by omega);rw [h2,h3]at this;exact this
        by_cases hs0:syE cs [] m.1 m.2 z tn=0
        ·have h7:=h_ (fun b fr os v' w'=>gD.o b m v' fr os w' (by rw [hE,hs0]) hm hW);have hG:=h_ (fun W hW2=>b0j (g7.o W hW2) hs0);clear hs0 hE hW HS hm hlt hi
         go_wp2_with(first
          |(go_at_call 13;refine hS.o.mono ?_;rintro e w8 ⟨rfl,h9,ht⟩;have B8:=h_ h9;have F8:=h_ ht;clear h9 ht)
          |(go_at_call 14;refine(hG.o _ F8.o).mono ?_;rintro e w9 ⟨rfl,hq,v9,gU,gW,g9⟩;have B9:Hid (Below w.heap.size w w9):=h_ (hI.o _ ((B8.o.mono (Nat.le_of_lt hN.o)).trans hq));have F9:=h_ g9;clear hq g9))
         have HZ:=h7.o _ _ _ _ _ F9.o B9.o
         first|exact HZ|(go_ret;exact HZ)|(go_ret2;exact HZ)
        ·have h7:=h_ (fun w' h=>ha.o (syE cs [] m.1 m.2 z tn) w' hE hs0 h);have hG:=h_ (fun W hW2=>b0m (g7.o W hW2));have g3:(syE cs [] m.1 m.2 z tn !=0)=true:=bN hs0;generalize syE cs [] m.1 m.2 z tn=E at*;clear hs0 hE hW HS hm hlt hi
         go_wp2_with(first
          |(go_at_call 13;refine hS.o.mono ?_;rintro e w8 ⟨rfl,h9,ht⟩;have B8:=h_ h9;have F8:=h_ ht;clear h9 ht)
          |(go_at_call 14;refine(hG.o _ F8.o).mono ?_;rintro e w9 ⟨rfl,hq⟩;have B9:Hid (Below w.heap.size w w9):=h_ (hI.o _ ((B8.o.mono (Nat.le_of_lt hN.o)).trans hq));clear hq))
         have HZ:=h7.o _ B9.o
         first|exact HZ|(go_ret;exact HZ)|(go_ret2;exact HZ)
       ·have gw:=h_ (Zt gb.o hW);have h7:=h_ (fun w' h=>ha.o 18 w' (HS.1 hW) (by decide) h);clear hW HS hm hlt hi;go_wp2_with(go_at_call 13;refine gw.o.mono ?_;rintro e w8 ⟨rfl,h9⟩;have B8:Hid (Below w.heap.size w w8):=h_ (hI.o _ (h9.mono (Nat.le_of_lt hN.o)));clear h9);have HZ:=h7.o _ B8.o
        first|exact HZ|(go_ret;exact HZ)|(go_ret2;exact HZ)
   ·have h7:=h_ (fun w' h=>ha.o (nwE cs []) w' (Su hd hn) hn h);unfold qv at hp;have g1:(nwE cs []!=0)=true:=bN hn;clear ha;generalize pj cs [] w=PP at*;generalize nwE cs []=E at*;generalize prS (nwU cs [])=ser at*;clear hd hn;go_enter Tryz.func4,Tryz.ntmps4
    go_wp2_with(first
     |(go_at_call 9;rw [←hx.o];refine hg.o.mono ?_;rintro e w1 ⟨rfl,h6⟩;have B1:=h_ h6;obtain⟨_,t0,t1,_,_⟩:=h0.o w1 h6;clear h6)
     |(go_at_call 10;refine(hp.o _ B1.o).mono ?_;rintro e w2 ⟨D,q,d,D',q',d',rfl,hC,hB,hc⟩;have B2:Hid (Below w.heap.size w (w2.alloc (.cells #[.int .i64 ser,.slice D q d,.slice D' q' d'] 45))):=h_ (h0.o _ ((B1.o.trans (hc.mono B1.o.size)).alloc (Nat.le_trans B1.o.size hc.size) _)).1;clear hC hB hc))
    have HZ:=h7.o _ B2.o
    first|exact HZ|(go_ret;exact HZ)|(go_ret2;exact HZ)
  ·have h7:=h_ (fun w' h=>ha.o 1 w' (Ik hd hws) (by decide) h);have hl:0 <ws.length:=List.length_pos_iff.2 hws;clear ha;generalize pj cs ws w=PP at*;clear hd hws;go_enter Tryz.func4,Tryz.ntmps4;go_wp2_with(go_at_call 9;rw [←hx.o];refine hg.o.mono ?_;rintro e w1 ⟨rfl,h6⟩;obtain⟨b1,t0,t1,_,_⟩:=h0.o w1 h6;have B1:=h_ b1;clear h6 b1);have HZ:=h7.o _ B1.o
   first|exact HZ|(go_ret;exact HZ)|(go_ret2;exact HZ)
 ·have hE:mtE cs ws=au cs ws:=by unfold mtE;exact if_pos hd
  have g1:(au cs ws !=0)=true:=bN hd;have h7:Hid (∀w',Below w.heap.size w w'→pj cs ws w (.returned (.tuple #[.pointer none,.int .i64 (au cs ws)])) w'):=h_ fun w' hb=>ha.o _ w' hE hd hb
  clear ha;generalize pj cs ws w=PP at*;generalize au cs ws=E at*;clear hd hE;go_enter Tryz.func4,Tryz.ntmps4;go_wp2_with(go_at_call 9;rw [←hx.o];refine hg.o.mono ?_;rintro e w1 ⟨rfl,h6⟩;have B1:=h_ (h0.o _ h6).1;clear h6);have HZ:=h7.o _ B1.o
  first|exact HZ|(go_ret;exact HZ)|(go_ret2;exact HZ)
def NrI(t:TypeId)(_B M:Nat)(wa:World)(T:ByteArray)(s6 s8:Value)(wx:World):Prop:=∃x D q d D' q' d',s6= .int .i64 (prN T)∧s8= .int .i64 (prE T)∧x=prS T∧wx.heap[M]?=some (.cells #[.int .i64 x,.slice D q d,.slice D' q' d'] t (0,0))∧PtR D q d D' q' d' (prP T) (prG T) wx∧Below wa.heap.size wa wx
theorem k0p(A:Option Addr)(n c:Nat)(cs:List ByteArray)(A':Option Addr)(n' c':Nat)(ws:List ae)(w:World)(r:ab w w.heap.size A n c (fun z=>[.string z]) 1 cs)(r':ab w w.heap.size A' n' c' ae.cells 2 ws)(hsz:∀k:Nat,k <cs.length→au cs ws=0→(ar cs ws k).size≤140737488351232):Calls Tryz.prog 34 #[.agg #[.slice A n c,.slice A' n' c']] w (qv cs ws w):=by
 have g2:=r.len;subst g2;have hX:=r'.len;subst hX;obtain⟨wa,hp⟩:∃wa,wa=(w.alloc (.cells #[.slice A cs.length c,.slice A' ws.length c'] 25)).alloc (.cells cf 45):=⟨_,rfl⟩;have hQ:wa.heap.size=w.heap.size+2:=by rw [hp];simp
 have hv:Below w.heap.size w wa:=by rw [hp];exact(br.alloc ler _).alloc (by simp) _
 have hE:wa.heap[w.heap.size+1]?=some (.cells cf 45 (0,0)):=by rw [hp];have:=A_ (w.alloc (.cells #[.slice A cs.length c,.slice A' ws.length c'] 25)) (.cells cf 45);rw [show(w.alloc (.cells #[.slice A cs.length c,.slice A' ws.length c'] 25)).heap.size=w.heap.size+1 by simp]at this;exact this
 have hG:wa.heap[w.heap.size]?=some (.cells #[.slice A cs.length c,.slice A' ws.length c'] 25 (0,0)):=by rw [hp];exact(heap_alloc_old _ _ (by simp)).trans (A_ w _)
 have hH:w.heap.size≤wa.heap.size:=by omega
 have RA:=h_ ((r.below hv).more hH);have hV:=h_ ((r'.below hv).more hH);have hK:Hid ((cf:Array Value).all (·.oneCell')=true):=by simp [Hid,Value.oneCell']
 have HC:Hid (∀W,Below wa.heap.size wa W→W.cell? ⟨w.heap.size,0,none⟩=some (.slice A cs.length c)∧W.cell? ⟨w.heap.size,1,none⟩=some (.slice A' ws.length c')∧w.heap.size <W.heap.size∧Hid (W.heap[w.heap.size+1]?=some (.cells cf 45 (0,0)))):=fun W h=>by have q0:=ah hG (ag hG) h;exact⟨aj q0 0,aj q0 1,ag q0,ah hE (ag hE) h⟩
 have hF:=h_ (K9 A _ c cs A' _ c' ws wa RA.o hV.o);have hS:=h_ hp;have hj:=h_ hv;have g3:=h_ hQ;clear r r' hp hv hE hG hQ hH;by_cases hd:au cs ws=0
 ·obtain⟨z1,z2,_,_,z3⟩:=jz hd;have hD:Hid (∀(k:Nat) W,k <cs.length→Below wa.heap.size wa W→Calls Tryz.prog 64 #[.agg #[.slice A cs.length c,.slice A' ws.length c'],.int .i64 k,.func (.func 65) #[] #[]] W fun e w'=>e= .returned (.string (ar cs ws k))∧Below W.heap.size W w'):=fun k W hk h=>Kp 65 #[] ia A _ c cs A' _ c' ws k W ((RA.o.below h).more h.size) ((hV.o.below h).more h.size) hk z3 (Iz _ _ _) Kn
  have hN:Hid (∀W,Below wa.heap.size wa W→Calls Tryz.prog 64 #[.agg #[.slice A cs.length c,.slice A' ws.length c'],.int .i64 0,.func (.func 65) #[] #[]] W fun e w'=>e= .returned (.string (ar cs ws 0))∧Below W.heap.size W w'):=fun W h=>hD.o 0 W z1 h
  have hw:Hid (1 <cs.length→∀W,Below wa.heap.size wa W→Calls Tryz.prog 64 #[.agg #[.slice A cs.length c,.slice A' ws.length c'],.int .i64 1,.func (.func 65) #[] #[]] W fun e w'=>e= .returned (.string (ar cs ws 1))∧Below W.heap.size W w'):=fun hk W h=>hD.o 1 W hk h
  have hy:Hid (∀W,Calls Tryz.prog 63 #[.string (ar cs ws 0)] W (sa (ar cs ws 0) W)):=fun W=>Qv _ (hsz 0 z1 hd) W
  have hs:Hid (1 <cs.length→∀W,Calls Tryz.prog 63 #[.string (ar cs ws 1)] W (sa (ar cs ws 1) W)):=fun hk W=>Qv _ (hsz 1 hk hd) W
  unfold sa at hy hs;have hC:=h_ (fun h=>ve (cs:=cs) (ws:=ws) hd h);have hx:=h_ (fun h=>vf (cs:=cs) (ws:=ws) hd h);have HT:Hid ((1 <cs.length→nwT cs ws=nh (ar cs ws 0) (ar cs ws 1))∧(¬1 <cs.length→nwT cs ws=ar cs ws 0)):=⟨fun h=>by unfold nwT;rw [if_pos h],fun h=>by unfold nwT;rw [if_neg h]⟩;rw [hd]at hF;clear hd z2 z3 hD hsz;generalize ar cs ws 0=t0 at*;generalize ar cs ws 1=t1 at*;generalize hT:nwT cs ws=T at*;clear hT;go_enter Tryz.func34,Tryz.ntmps34
  go_upto_if 28 with(first
   |(go_at_call 15;rw [←hS.o];refine hF.o.mono ?_;rintro e w1 ⟨rfl,he⟩;obtain⟨v0,v1,_,_⟩:=HC.o w1 he;have hq:=h_ he;clear he)
   |(go_at_call 64;refine(hN.o _ hq.o).mono ?_;rintro e w2 ⟨rfl,hJ⟩;have hA:=h_ (hq.o.trans (hJ.mono hq.o.size));clear hJ)
   |(go_at_call 63;refine(hy.o _).mono ?_;rintro e w3 ⟨D,q,d,D',q',d',rfl,r3,hL,hR⟩;have hr:=h_ (hA.o.trans (hR.mono hA.o.size));have P3:Hid (PtR D q d D' q' d' (prP t0) (prG t0) w3):=⟨r3,hL,lz _⟩;obtain⟨u0,u1,u2,_⟩:=HC.o w3 hr.o;clear hR r3 hL))
  have P4:=h_ (P3.o.new (.cells #[.int .i64 (prS t0),.slice D q d,.slice D' q' d'] 45));have h4:=h_ (hr.o.alloc hr.o.size (.cells #[.int .i64 (prS t0),.slice D q d,.slice D' q' d'] 45));have ha:=h_ (A_ w3 (.cells #[.int .i64 (prS t0),.slice D q d,.slice D' q' d'] 45));have hU:Hid (wa.heap.size≤w3.heap.size):=hr.o.size;clear v0 v1 u0 u1 u2 P3 hr hA hq;generalize w3.alloc (.cells #[.int .i64 (prS t0),.slice D q d,.slice D' q' d'] 45)=w4 at*;go_cut [6,8] (fun s6 s8 wx=>NrI 45 (w.heap.size+1) w3.heap.size wa T s6 s8 wx)
  case first=>
   by_cases h1:1 <cs.length
   ·have hu:=h_ (HT.o.1 h1);have ht:=h_ (hw.o h1);have hc:=h_ (hs.o h1);have i1:(1:Int) < (cs.length:Int):=by omega
    obtain⟨u0,u1,u2,_⟩:=HC.o w4 h4.o;clear hw hs HT h1 hN hy;by_cases hp1:prE t1=0
    ·by_cases hp0:prE t0=0
     ·by_cases hn:prN t0 <prN t1
      ·have HS:=h_ (hu.o.trans (qe hp1 (.inr hn)));rw [hp0];rw [hp1]at hc
       go_upto_if 46 with(first
        |(go_at_call 64;refine(ht.o _ h4.o).mono ?_;rintro e w5 ⟨rfl,h0⟩;have hh:=h0;have h5:=h_ (ah ha.o (ag ha.o) h0);have P5:=h_ (P4.o.go h0);have h8:=h_ (h4.o.trans (h0.mono h4.o.size));clear h0 hh)
        |(go_at_call 63;refine(hc.o _).mono ?_;rintro e w6 ⟨G,g,h,G',g',h',rfl,r6,h6,h3⟩;have hf:=h_ (ah h5.o (ag h5.o) h3);have P6:=h_ (P5.o.go h3);have h7:=h_ (h8.o.trans (h3.mono h8.o.size));have Q6:Hid (PtR G g h G' g' h' (prP t1) (prG t1) w6):=⟨r6,h6,lz _⟩;clear h3 r6 h6))
       have h2:=h_ (cq hf.o (.cells #[.int .i64 (prS t1),.slice G g h,.slice G' g' h'] 45));have h9:=h_ (A_ w6 (.cells #[.int .i64 (prS t1),.slice G g h,.slice G' g' h'] 45));have P7:=h_ (P6.o.new (.cells #[.int .i64 (prS t1),.slice G g h,.slice G' g' h'] 45));have Q7:=h_ (Q6.o.new (.cells #[.int .i64 (prS t1),.slice G g h,.slice G' g' h'] 45));have hg:=h_ (h7.o.alloc h7.o.size (.cells #[.int .i64 (prS t1),.slice G g h,.slice G' g' h'] 45));generalize w6.alloc (.cells #[.int .i64 (prS t1),.slice G g h,.slice G' g' h'] 45)=w7 at*;have k0:=rc0 h2.o;have k1:=rc1 h2.o;have k2:=rc2 h2.o;have k3:=ak h2.o 0;have k4:=ak h2.o 1;have k5:=ak h2.o 2;have l0:=rc0 h9.o;have l1:=rc1 h9.o;have l2:=rc2 h9.o;go_wp2_with fail;go_region_law(fail)
       all_goals
        have E:Hid (NrI 45 (w.heap.size+1) w3.heap.size wa T (.int .i64 (prN t1)) (.int .i64 (prE t1)) (((w7.setCell ⟨w3.heap.size,0,none⟩ (.int .i64 (prS t1))).setCell ⟨w3.heap.size,1,none⟩ (.slice G g h)).setCell ⟨w3.heap.size,2,none⟩ (.slice G' g' h')).drew):=by rw [HS.o];exact⟨_,G,g,h,G',g',h',rfl,rfl,rfl,pz rfl h2.o,Q7.o.set3 h2.o _ _ _,qt hg.o hU.o⟩
        rw [hp1]at E;go_wp2_with fail;go_meet
        case rel=>exact E.o
      ·have HS:=h_ (hu.o.trans (zc hp0 hn));rw [hp1]at hc
       go_upto_if 46 with(first
        |(go_at_call 64;refine(ht.o _ h4.o).mono ?_;rintro e w5 ⟨rfl,h0⟩;have hh:=h0;have h5:=h_ (ah ha.o (ag ha.o) h0);have P5:=h_ (P4.o.go h0);have h8:=h_ (h4.o.trans (h0.mono h4.o.size));clear h0 hh)
        |(go_at_call 63;refine(hc.o _).mono ?_;rintro e w6 ⟨G,g,h,G',g',h',rfl,r6,h6,h3⟩;have hf:=h_ (ah h5.o (ag h5.o) h3);have P6:=h_ (P5.o.go h3);have h7:=h_ (h8.o.trans (h3.mono h8.o.size));have Q6:Hid (PtR G g h G' g' h' (prP t1) (prG t1) w6):=⟨r6,h6,lz _⟩;clear h3 r6 h6))
       have h2:=h_ (cq hf.o (.cells #[.int .i64 (prS t1),.slice G g h,.slice G' g' h'] 45));have h9:=h_ (A_ w6 (.cells #[.int .i64 (prS t1),.slice G g h,.slice G' g' h'] 45));have P7:=h_ (P6.o.new (.cells #[.int .i64 (prS t1),.slice G g h,.slice G' g' h'] 45));have Q7:=h_ (Q6.o.new (.cells #[.int .i64 (prS t1),.slice G g h,.slice G' g' h'] 45));have hg:=h_ (h7.o.alloc h7.o.size (.cells #[.int .i64 (prS t1),.slice G g h,.slice G' g' h'] 45));have E:Hid (NrI 45 (w.heap.size+1) w3.heap.size wa T (.int .i64 (prN t0)) (.int .i64 (prE t0)) (w6.alloc (.cells #[.int .i64 (prS t1),.slice G g h,.slice G' g' h'] 45))):=by rw [HS.o];exact⟨_,D,q,d,D',q',d',rfl,rfl,rfl,h2.o,P7.o,hg.o⟩
       rw [hp0]at E;go_wp2_with fail;go_meet
       case rel=>exact E.o
     ·have HS:=h_ (hu.o.trans (qe hp1 (.inl hp0)));have g0:(prE t0 !=0)=true:=bN hp0;rw [hp1]at hc
      go_upto_if 46 with(first
       |(go_at_call 64;refine(ht.o _ h4.o).mono ?_;rintro e w5 ⟨rfl,h0⟩;have hh:=h0;have h5:=h_ (ah ha.o (ag ha.o) h0);have P5:=h_ (P4.o.go h0);have h8:=h_ (h4.o.trans (h0.mono h4.o.size));clear h0 hh)
       |(go_at_call 63;refine(hc.o _).mono ?_;rintro e w6 ⟨G,g,h,G',g',h',rfl,r6,h6,h3⟩;have hf:=h_ (ah h5.o (ag h5.o) h3);have P6:=h_ (P5.o.go h3);have h7:=h_ (h8.o.trans (h3.mono h8.o.size));have Q6:Hid (PtR G g h G' g' h' (prP t1) (prG t1) w6):=⟨r6,h6,lz _⟩;clear h3 r6 h6))
      have h2:=h_ (cq hf.o (.cells #[.int .i64 (prS t1),.slice G g h,.slice G' g' h'] 45));have h9:=h_ (A_ w6 (.cells #[.int .i64 (prS t1),.slice G g h,.slice G' g' h'] 45));have P7:=h_ (P6.o.new (.cells #[.int .i64 (prS t1),.slice G g h,.slice G' g' h'] 45));have Q7:=h_ (Q6.o.new (.cells #[.int .i64 (prS t1),.slice G g h,.slice G' g' h'] 45));have hg:=h_ (h7.o.alloc h7.o.size (.cells #[.int .i64 (prS t1),.slice G g h,.slice G' g' h'] 45));generalize w6.alloc (.cells #[.int .i64 (prS t1),.slice G g h,.slice G' g' h'] 45)=w7 at*;have k0:=rc0 h2.o;have k1:=rc1 h2.o;have k2:=rc2 h2.o;have k3:=ak h2.o 0;have k4:=ak h2.o 1;have k5:=ak h2.o 2;have l0:=rc0 h9.o;have l1:=rc1 h9.o;have l2:=rc2 h9.o;go_wp2_with fail;go_region_law(fail)
      all_goals
       have E:Hid (NrI 45 (w.heap.size+1) w3.heap.size wa T (.int .i64 (prN t1)) (.int .i64 (prE t1)) (((w7.setCell ⟨w3.heap.size,0,none⟩ (.int .i64 (prS t1))).setCell ⟨w3.heap.size,1,none⟩ (.slice G g h)).setCell ⟨w3.heap.size,2,none⟩ (.slice G' g' h')).drew):=by rw [HS.o];exact⟨_,G,g,h,G',g',h',rfl,rfl,rfl,pz rfl h2.o,Q7.o.set3 h2.o _ _ _,qt hg.o hU.o⟩
       rw [hp1]at E;go_wp2_with fail;go_meet
       case rel=>exact E.o
    ·have HS:=h_ (hu.o.trans (vh hp1));have g1:(prE t1==0)=false:=bF hp1;skip
     go_upto_if 46 with(first
      |(go_at_call 64;refine(ht.o _ h4.o).mono ?_;rintro e w5 ⟨rfl,h0⟩;have hh:=h0;have h5:=h_ (ah ha.o (ag ha.o) h0);have P5:=h_ (P4.o.go h0);have h8:=h_ (h4.o.trans (h0.mono h4.o.size));clear h0 hh)
      |(go_at_call 63;refine(hc.o _).mono ?_;rintro e w6 ⟨G,g,h,G',g',h',rfl,r6,h6,h3⟩;have hf:=h_ (ah h5.o (ag h5.o) h3);have P6:=h_ (P5.o.go h3);have h7:=h_ (h8.o.trans (h3.mono h8.o.size));have Q6:Hid (PtR G g h G' g' h' (prP t1) (prG t1) w6):=⟨r6,h6,lz _⟩;clear h3 r6 h6))
     have h2:=h_ (cq hf.o (.cells #[.int .i64 (prS t1),.slice G g h,.slice G' g' h'] 45));have h9:=h_ (A_ w6 (.cells #[.int .i64 (prS t1),.slice G g h,.slice G' g' h'] 45));have P7:=h_ (P6.o.new (.cells #[.int .i64 (prS t1),.slice G g h,.slice G' g' h'] 45));have Q7:=h_ (Q6.o.new (.cells #[.int .i64 (prS t1),.slice G g h,.slice G' g' h'] 45));have hg:=h_ (h7.o.alloc h7.o.size (.cells #[.int .i64 (prS t1),.slice G g h,.slice G' g' h'] 45));have E:Hid (NrI 45 (w.heap.size+1) w3.heap.size wa T (.int .i64 (prN t0)) (.int .i64 (prE t0)) (w6.alloc (.cells #[.int .i64 (prS t1),.slice G g h,.slice G' g' h'] 45))):=by rw [HS.o];exact⟨_,D,q,d,D',q',d',rfl,rfl,rfl,h2.o,P7.o,hg.o⟩
     go_wp2_with fail;go_meet
     case rel=>exact E.o
   ·have HS:=h_ (HT.o.2 h1);have i1:¬(1:Int) < (cs.length:Int):=by omega
    clear hw hs HT h1;have E:Hid (NrI 45 (w.heap.size+1) w3.heap.size wa T (.int .i64 (prN t0)) (.int .i64 (prE t0)) w4):=by rw [HS.o];exact⟨_,D,q,d,D',q',d',rfl,rfl,rfl,ha.o,P4.o,h4.o⟩
    go_wp2_with fail;go_meet
    case rel=>exact E.o
  case rest=>
   obtain⟨x,G,g,h,G',g',h',rfl,rfl,rfl,hM,hP,hB⟩:=hcut;obtain⟨w8,rfl⟩:∃z:World,z=wc:=⟨_,rfl⟩;have hz:=h_ hM;have hY:=h_ hP;have hI:=h_ hB;obtain⟨_,_,_,v2⟩:=HC.o w8 hB;clear hM hP hB;by_cases hT:prE T=0
   ·obtain⟨e1,e2⟩:=hC.o hT;have F:=h_ e1;have F2:=h_ e2;have g4:=h_ hT;have k0:=rc0 v2.o;have k1:=rc1 v2.o;have k2:=rc2 v2.o;have k3:=ak v2.o 0;have k4:=ak v2.o 1;have k5:=ak v2.o 2;have l0:=rc0 hz.o;have l1:=rc1 hz.o;have l2:=rc2 hz.o;clear e1 e2 hC hx;generalize hTE:prE T=TE at*;subst hT;go_wp2_with fail;go_region_law(fail)
    all_goals
     have hm:=pz (x':=prS T) (G:=G) (g:=g) (h:=h) (G':=G') (g':=g') (h':=h') rfl v2.o;have hW:=h_ hm;have P9:=h_ (hY.o.set3 v2.o (.int .i64 (prS T)) (.slice G g h) (.slice G' g' h'));have hZ:=h_ (qt (u:=.int .i64 (prS T)) (v:=.slice G g h) (z:=.slice G' g' h') (hj.o.trans (hI.o.mono hj.o.size)) (show w.heap.size≤w.heap.size+1 by omega));clear hm k0 k1 k2 k3 k4 k5;generalize(((w8.setCell ⟨w.heap.size+1,0,none⟩ (.int .i64 (prS T))).setCell ⟨w.heap.size+1,1,none⟩ (.slice G g h)).setCell ⟨w.heap.size+1,2,none⟩ (.slice G' g' h')).drew=w9 at*;go_wp2;refine bodyPost_ret (jj rfl _ _ (w.heap.size+1) _ #[.int .i64 (prS T),.slice G g h,.slice G' g' h'] (0,0) _ rfl hW.o Tryz.underlying45 rfl er) rfl ?_;exact⟨G,g,h,G',g',h',by rw [F.o,F2.o]<;>rfl,by rw [F2.o];exact P9.o.a1,by rw [F2.o];exact P9.o.a2,hZ.o⟩
   ·obtain⟨e1,e2⟩:=hx.o hT;have F:=h_ e1;have F2:=h_ e2;have i4:(prE T !=0)=true:=bN hT;clear e1 e2 hC hx hT;go_wp2_with(refine wpList_store_rowTo rfl _ _ _ rfl rfl (w.heap.size+1) cf rfl rfl 45 cf v2.o er rfl hK.o ?_);refine bodyPost_ret (jj rfl _ _ (w.heap.size+1) _ cf (0,0) _ rfl (bh v2.o) Tryz.underlying45 rfl er) rfl ?_;exact za F.o F2.o (below_setRow (hj.o.trans (hI.o.mono hj.o.size)) (by omega) _)
 ·obtain⟨e1,e2⟩:=S6 hd;have F:=h_ e1;have F2:=h_ e2;have i4:(au cs ws !=0)=true:=bN hd;generalize au cs ws=de at*;clear hd e1 e2;go_enter Tryz.func34,Tryz.ntmps34
  go_wp2_with(first
   |(go_at_call 15;rw [←hS.o];refine hF.o.mono ?_;rintro e w1 ⟨rfl,he⟩;obtain⟨v0,v1,_,v2⟩:=HC.o w1 he;have hq:=h_ he;clear he)
   |(refine wpList_store_rowTo rfl _ _ _ rfl rfl (w.heap.size+1) cf rfl rfl 45 cf v2.o er rfl hK.o ?_))
  refine bodyPost_ret (jj rfl _ _ (w.heap.size+1) _ cf (0,0) _ rfl (bh v2.o) Tryz.underlying45 rfl er) rfl ?_;exact za F.o F2.o (below_setRow (hj.o.trans (hq.o.mono hj.o.size)) (by omega) _)
end Go.Proofs.YtcldpfhpkbeaiadGreat
