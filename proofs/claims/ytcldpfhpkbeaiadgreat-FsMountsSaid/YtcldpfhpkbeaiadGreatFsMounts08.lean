/- A part of the proof of FsMounts. No condition of ours. -/
import Derived.Test.YtcldpfhpkbeaiadGreatFsMounts07
set_option maxRecDepth 20000
set_option maxHeartbeats 1000000
namespace Go.Proofs.YtcldpfhpkbeaiadGreat
open Go.RowKit
theorem E8(w:World)(v0 v1:Value)(t:TypeId):(w.alloc (.cells #[v0,v1] t)).cell? ⟨w.heap.size,0,none⟩=some v0∧(w.alloc (.cells #[v0,v1] t)).cell? ⟨w.heap.size,1,none⟩=some v1:=by constructor<;>(unfold World.cell?;rw [A_ w _];rfl)
theorem Vy(n a:Int)(t:ByteArray)(w:World):Calls Tryz.prog 22 #[.int .i64 n,.int .i64 a,.string t] w fun e w'=>e= .returned (.int .i64 (ey n a t.size))∧w=w':=by
 rcases(show a <0∨(0≤a∧n≤a)∨(0≤a∧a <n) by omega)with h|⟨h0,h⟩|⟨h0,h⟩
 ·have F:=h_ (Bz (z:=t.size) (n:=n) (.inl h));go_enter Tryz.func22,Tryz.ntmps22;go_wp2;go_ret;exact⟨ax F.o.symm,rfl⟩
 ·have F:=h_ (Bz (z:=t.size) (.inr h));go_enter Tryz.func22,Tryz.ntmps22;go_wp2;go_ret;exact⟨ax F.o.symm,rfl⟩
 ·have h2:¬n≤a:=by omega
  by_cases hz:1024 <t.size
  ·have F:=h_ (Qn h0 h hz);have h1:(1024:Int) < (t.size:Int):=by omega
   go_enter Tryz.func22,Tryz.ntmps22;go_wp2;go_ret;exact⟨ax F.o.symm,rfl⟩
  ·have F:=h_ (Qm h0 h hz);have h1:(t.size:Int)≤1024:=by omega
   go_enter Tryz.func22,Tryz.ntmps22;go_wp2;go_ret;exact⟨ax F.o.symm,rfl⟩
theorem xe(A:Option Addr)(n c:Nat)(cs:List ByteArray)(A':Option Addr)(n' c':Nat)(ws:List ae)(w:World)(r:ab w w.heap.size A n c (fun z=>[.string z]) 1 cs)(r':ab w w.heap.size A' n' c' ae.cells 2 ws):Calls Tryz.prog 9 #[.agg #[.slice A n c,.slice A' n' c']] w fun e w'=>e= .returned (.int .i64 (au cs ws))∧Below w.heap.size w w':=by
 have ht:n'≤9223372036854775807:=by have h1:=r'.le;have h2:=r'.top;unfold maxLen at h2;omega
 have hh:=r.len;obtain rfl:=hh;have hd:=r'.len;obtain rfl:=hd;obtain⟨p0,p1⟩:=E8 w (.slice A cs.length c) (.slice A' ws.length c') 25;have h4:Below w.heap.size w (w.alloc (.cells #[.slice A cs.length c,.slice A' ws.length c'] 25)):=br.alloc ler _;have h9:w.heap.size < (w.alloc (.cells #[.slice A cs.length c,.slice A' ws.length c'] 25)).heap.size:=by simp
 by_cases hn:cs.length=0∨128 <cs.length
 ·have F:=h_ (Ka (ws:=ws) hn);rcases hn with h|h
  ·have h1:(cs.length:Int) <1:=by omega
   have h2:((cs.length:Int)==0)=true:=by rw [beq_iff_eq];omega
   have h':=h_ h;clear h;go_enter Tryz.func9,Tryz.ntmps9;go_wp2;go_ret;exact⟨ax F.o.symm,h4⟩
  ·have h1:(128:Int) < (cs.length:Int):=by omega
   have h3:(1:Int)≤(cs.length:Int):=by omega
   have h2:((cs.length:Int)==0)=false:=by rw [beq_eq_false_iff_ne];omega
   go_enter Tryz.func9,Tryz.ntmps9;go_wp2;go_ret;exact⟨ax F.o.symm,h4⟩
 ·have h1:(1:Int)≤(cs.length:Int):=by omega
  have h3:(cs.length:Int)≤128:=by omega
  have h2:((cs.length:Int)==0)=false:=by rw [beq_eq_false_iff_ne];omega
  have hn:=h_ hn;obtain⟨wa,h7⟩:∃wa,wa=w.alloc (.cells #[.slice A cs.length c,.slice A' ws.length c'] 25):=⟨_,rfl⟩;rw [←h7]at p0 p1 h4 h9;go_enter Tryz.func9,Tryz.ntmps9;go_wp2;rw [←h7];clear h7;go_loop [21] (fun v21=>∃k:Nat,k≤cs.length∧Hid (gd cs=gd (cs.drop k))∧v21= .int .i64 k) (fun v21=>cs.length- (intOf v21).toNat)
  case atStart=>exact⟨0,zl,rfl,rfl⟩
  case round=>
   obtain⟨k,hk,hR,rfl⟩:=hrel;by_cases hlt:k <cs.length
   ·have e1:=gE hlt;obtain⟨b,o,rfl,hp,hc⟩:=(r.below h4).one e1;generalize cs[k]=x at*;by_cases hx:1024 <x.size
    ·have G:Hid (au cs ws=2):=Vx hn.o (hR.o.trans (Xf e1 hx));have hf:(1024:Int) < (x.size:Int):=by omega
     clear e1;go_wp2;go_ret;exact⟨ax G.o.symm,h4⟩
    ·have G:Hid (gd cs=gd (cs.drop (k+1))):=hR.o.trans (Xd e1 hx);have hf:(x.size:Int)≤1024:=by omega
     clear e1;go_wp2;go_round
     case rel=>exact⟨k+1,by omega,G,by go_num⟩
     case measure=>simp [intOf];omega
   ·have hC:gd cs=0:=hR.o.trans (Xe (by omega));have hC:=h_ hC;clear hR;go_wp2;go_loopw [32] (fun v32 wr=>∃k:Nat,k≤ws.length∧Hid (fg cs.length ws=fg cs.length (ws.drop k))∧v32= .int .i64 k∧Below wa.heap.size wa wr) (fun v32 _=>ws.length- (intOf v32).toNat)
    case atStart=>exact⟨0,zl,rfl,rfl,br⟩
    case round=>
     obtain⟨k,hk,hW,rfl,hb⟩:=hrel;have h6:Below w.heap.size w wr:=h4.trans (hb.mono (by omega));have he:=hb.size;have hs:wr.cell? ⟨w.heap.size,0,none⟩=some (.slice A cs.length c):=(hb.cell (p:=⟨w.heap.size,0,none⟩) h9).trans p0;have hr:wr.cell? ⟨w.heap.size,1,none⟩=some (.slice A' ws.length c'):=(hb.cell (p:=⟨w.heap.size,1,none⟩) h9).trans p1;have hq:w.heap.size <wr.heap.size:=by omega
     have hC:=hC.o;have hC:=hC;by_cases hlt:k <ws.length
     ·have e1:=gE hlt;obtain⟨b,o,rfl,hp,hc⟩:=(r'.below h6).at_ k _ e1;have h5:=hc 0 _ rfl;have h8:=hc 1 _ rfl;simp only [Nat.add_zero]at h5;obtain⟨pa,pt,ha⟩:∃pa pt,ws[k]=(⟨pa,pt⟩:ae):=⟨_,_,rfl⟩;rw [ha]at e1 h5 h8;have h5:wr.cell? ⟨b,o+k*2,none⟩=some (.int .i64 pa):=h5;have h8:wr.cell? ⟨b,o+k*2+1,none⟩=some (.string pt):=h8;clear hc ha;have hu:b <wr.heap.size:=by omega
      have HP:=h_ (Vy (cs.length:Int) pa pt);by_cases hE:ey cs.length pa pt.size=0
      ·have G:Hid (fg cs.length ws=fg cs.length (ws.drop (k+1))):=by simp only [Hid];rw [hW.o,Ms e1 hE]
       have hj:Hid (∀W,Calls Tryz.prog 22 #[.int .i64 cs.length,.int .i64 pa,.string pt] W fun e w'=>e= .returned (.int .i64 0)∧W=w'):=fun W=>by have:=HP.o W;rw [hE]at this;exact this
       clear HP hE e1;go_wp2_with(go_at_call 22;refine(hj.o _).mono ?_;rintro e w' ⟨rfl,rfl⟩);go_roundw
       case rel=>exact⟨k+1,by omega,G,by go_num,hb.alloc he _⟩
       case measure=>simp [intOf];omega
      ·have h0:fg cs.length ws≠0:=by rw [hW.o,qy e1 hE];exact hE
       have G:Hid (au cs ws=ey cs.length pa pt.size):=by simp only [Hid];rw [Dx hn.o hC h0,hW.o,qy e1 hE]
       have hv:(ey cs.length pa pt.size !=0)=true:=bN hE;generalize ey cs.length pa pt.size=pe at*;clear hE e1 h0;go_wp2_with(go_at_call 22;refine(HP.o _).mono ?_;rintro e w' ⟨rfl,rfl⟩);go_ret;exact⟨ax G.o.symm,h6.alloc (by omega) _⟩
     ·have h0:fg cs.length ws=0:=hW.o.trans (Mt (by omega));by_cases hm:400 <ws.length
      ·have G:Hid (au cs ws=2):=Vw hn.o hC h0 hm;have hg:(400:Int) < (ws.length:Int):=by omega
       clear hC h0;go_wp2;go_ret;exact⟨ax G.o.symm,h6⟩
      ·have G:Hid (au cs ws=0):=Dy hn.o hC h0 hm;have hg:(ws.length:Int)≤400:=by omega
       clear hC h0;go_wp2;go_ret;exact⟨ax G.o.symm,h6⟩
theorem K9(A:Option Addr)(n c:Nat)(cs:List ByteArray)(A':Option Addr)(n' c':Nat)(ws:List ae)(w:World)(r:ab w w.heap.size A n c (fun z=>[.string z]) 1 cs)(r':ab w w.heap.size A' n' c' ae.cells 2 ws):Calls Tryz.prog 15 #[.agg #[.slice A n c,.slice A' n' c']] w fun e w'=>e= .returned (.int .i64 (au cs ws))∧Below w.heap.size w w':=by
 have hu:n'≤9223372036854775807:=by have h1:=r'.le;have h2:=r'.top;unfold maxLen at h2;omega
 have hp:=r.len;obtain rfl:=hp;have hf:=r'.len;obtain rfl:=hf;obtain⟨p0,p1⟩:=E8 w (.slice A cs.length c) (.slice A' ws.length c') 25;have h5:Below w.heap.size w (w.alloc (.cells #[.slice A cs.length c,.slice A' ws.length c'] 25)):=br.alloc ler _;have ha:w.heap.size < (w.alloc (.cells #[.slice A cs.length c,.slice A' ws.length c'] 25)).heap.size:=by simp
 by_cases hn:cs.length=0∨128 <cs.length
 ·have F:=h_ (Ka (ws:=ws) hn);rcases hn with h|h
  ·have h1:(cs.length:Int) <1:=by omega
   have h2:((cs.length:Int)==0)=true:=by rw [beq_iff_eq];omega
   have h':=h_ h;clear h;go_enter Tryz.func15,Tryz.ntmps15;go_wp2;go_ret;exact⟨ax F.o.symm,h5⟩
  ·have h1:(128:Int) < (cs.length:Int):=by omega
   have h3:(1:Int)≤(cs.length:Int):=by omega
   have h2:((cs.length:Int)==0)=false:=by rw [beq_eq_false_iff_ne];omega
   go_enter Tryz.func15,Tryz.ntmps15;go_wp2;go_ret;exact⟨ax F.o.symm,h5⟩
 ·have h1:(1:Int)≤(cs.length:Int):=by omega
  have h3:(cs.length:Int)≤128:=by omega
  have h2:((cs.length:Int)==0)=false:=by rw [beq_eq_false_iff_ne];omega
  have hn:=h_ hn;obtain⟨wa,h8⟩:∃wa,wa=w.alloc (.cells #[.slice A cs.length c,.slice A' ws.length c'] 25):=⟨_,rfl⟩;rw [←h8]at p0 p1 h5 ha;go_enter Tryz.func15,Tryz.ntmps15;go_wp2;rw [←h8];clear h8;go_loop [20] (fun v20=>∃k:Nat,k≤cs.length∧Hid (gd cs=gd (cs.drop k))∧v20= .int .i64 k) (fun v20=>cs.length- (intOf v20).toNat)
  case atStart=>exact⟨0,zl,rfl,rfl⟩
  case round=>
   obtain⟨k,hk,hR,rfl⟩:=hrel;by_cases hlt:k <cs.length
   ·have e1:=gE hlt;obtain⟨b,o,rfl,hq,hc⟩:=(r.below h5).one e1;generalize cs[k]=x at*;by_cases hx:1024 <x.size
    ·have G:Hid (au cs ws=2):=Vx hn.o (hR.o.trans (Xf e1 hx));have hh:(1024:Int) < (x.size:Int):=by omega
     clear e1;go_wp2;go_ret;exact⟨ax G.o.symm,h5⟩
    ·have G:Hid (gd cs=gd (cs.drop (k+1))):=hR.o.trans (Xd e1 hx);have hh:(x.size:Int)≤1024:=by omega
     clear e1;go_wp2;go_round
     case rel=>exact⟨k+1,by omega,G,by go_num⟩
     case measure=>simp [intOf];omega
   ·have hC:gd cs=0:=hR.o.trans (Xe (by omega));have hC:=h_ hC;clear hR;go_wp2;go_loopw [31] (fun v31 wr=>∃k:Nat,k≤ws.length∧Hid (fg cs.length ws=fg cs.length (ws.drop k))∧v31= .int .i64 k∧Below wa.heap.size wa wr) (fun v31 _=>ws.length- (intOf v31).toNat)
    case atStart=>exact⟨0,zl,rfl,rfl,br⟩
    case round=>
     obtain⟨k,hk,hW,rfl,hb⟩:=hrel;have h6:Below w.heap.size w wr:=h5.trans (hb.mono (by omega));have hg:=hb.size;have ht:wr.cell? ⟨w.heap.size,0,none⟩=some (.slice A cs.length c):=(hb.cell (p:=⟨w.heap.size,0,none⟩) ha).trans p0;have hs:wr.cell? ⟨w.heap.size,1,none⟩=some (.slice A' ws.length c'):=(hb.cell (p:=⟨w.heap.size,1,none⟩) ha).trans p1;have hr:w.heap.size <wr.heap.size:=by omega
     have hC:=hC.o;have hC:=hC;by_cases hlt:k <ws.length
     ·have e1:=gE hlt;obtain⟨b,o,rfl,hq,hc⟩:=(r'.below h6).at_ k _ e1;have h7:=hc 0 _ rfl;have h9:=hc 1 _ rfl;simp only [Nat.add_zero]at h7;obtain⟨pa,pt,hd⟩:∃pa pt,ws[k]=(⟨pa,pt⟩:ae):=⟨_,_,rfl⟩;rw [hd]at e1 h7 h9;have h7:wr.cell? ⟨b,o+k*2,none⟩=some (.int .i64 pa):=h7;have h9:wr.cell? ⟨b,o+k*2+1,none⟩=some (.string pt):=h9;clear hc hd;have hv:b <wr.heap.size:=by omega
      rcases(show pa <0∨(0≤pa∧(cs.length:Int)≤pa)∨(0≤pa∧pa < (cs.length:Int)) by omega)with h|⟨h0,h⟩|⟨h0,h⟩
      ·have hP:ey cs.length pa pt.size=1:=Bz (.inl h);have h4:fg cs.length ws≠0:=by rw [hW.o,qy e1 (by rw [hP];decide),hP];decide
       have G:Hid (au cs ws=_):=(Dx hn.o hC h4).trans (hW.o.trans ((qy e1 (by rw [hP];decide)).trans (hP)));clear e1 h4;go_wp2;go_ret;exact⟨ax G.o.symm,h6.alloc (by omega) _⟩
      ·have hP:ey cs.length pa pt.size=1:=Bz (.inr h);have h4:fg cs.length ws≠0:=by rw [hW.o,qy e1 (by rw [hP];decide),hP];decide
       have G:Hid (au cs ws=_):=(Dx hn.o hC h4).trans (hW.o.trans ((qy e1 (by rw [hP];decide)).trans (hP)));clear e1 h4;go_wp2;go_ret;exact⟨ax G.o.symm,h6.alloc (by omega) _⟩
      ·have h2:¬(cs.length:Int)≤pa:=by omega
       by_cases hz:1024 <pt.size
       ·have hP:ey cs.length pa pt.size=2:=Qn h0 h hz;have he:(1024:Int) < (pt.size:Int):=by omega
        have h4:fg cs.length ws≠0:=by rw [hW.o,qy e1 (by rw [hP];decide),hP];decide
        have G:Hid (au cs ws=_):=(Dx hn.o hC h4).trans (hW.o.trans ((qy e1 (by rw [hP];decide)).trans (hP)));clear e1 h4;go_wp2;go_ret;exact⟨ax G.o.symm,h6.alloc (by omega) _⟩
       ·have he:(pt.size:Int)≤1024:=by omega
        have G:Hid (fg cs.length ws=fg cs.length (ws.drop (k+1))):=by simp only [Hid];rw [hW.o,Ms e1 (Qm h0 h hz)]
        clear e1;go_wp2;go_roundw
        case rel=>exact⟨k+1,by omega,G,by go_num,hb.alloc hg _⟩
        case measure=>simp [intOf];omega
     ·have h4:fg cs.length ws=0:=hW.o.trans (Mt (by omega));by_cases hm:400 <ws.length
      ·have G:Hid (au cs ws=2):=Vw hn.o hC h4 hm;have hj:(400:Int) < (ws.length:Int):=by omega
       clear hC h4;go_wp2;go_ret;exact⟨ax G.o.symm,h6⟩
      ·have G:Hid (au cs ws=0):=Dy hn.o hC h4 hm;have hj:(ws.length:Int)≤400:=by omega
       clear hC h4;go_wp2;go_ret;exact⟨ax G.o.symm,h6⟩
theorem Gv{w:World}{B n c:Nat}{A:Option Addr}{ws:List ae}(r:ab w B A n c ae.cells 2 ws){i:Nat}{p:ae}(h:ws[i]?=some p):∃b o,A=some ⟨b,o,none⟩∧b <B∧w.cell? ⟨b,o+i*2,none⟩=some (.int .i64 p.At)∧w.cell? ⟨b,o+i*2+1,none⟩=some (.string p.Text):=by obtain⟨b,o,e,hb,hc⟩:=r.at_ i p h;exact⟨b,o,e,hb,hc 0 _ rfl,hc 1 _ rfl⟩
theorem Sf(A:Option Addr)(n c:Nat)(cs:List ByteArray)(A':Option Addr)(n' c':Nat)(ws:List ae)(a:Nat)(w:World)(r:ab w w.heap.size A n c (fun z=>[.string z]) 1 cs)(r':ab w w.heap.size A' n' c' ae.cells 2 ws)(ha:a <cs.length)(hws:ws.length≤400):Calls Tryz.prog 24 #[.agg #[.slice A n c,.slice A' n' c'],.int .i64 a] w fun e w'=>e= .returned (.string (ar cs ws a))∧Below w.heap.size w w':=by
 have h7:=r.len;obtain rfl:=h7;have h3:=r'.len;obtain rfl:=h3;obtain⟨p0,p1⟩:=E8 w (.slice A cs.length c) (.slice A' ws.length c') 25;have h0:Below w.heap.size w (w.alloc (.cells #[.slice A cs.length c,.slice A' ws.length c'] 25)):=br.alloc ler _;have r1:=r.below h0;have r2:=r'.below h0;have e0:=gE ha;obtain⟨b0,o0,rfl,hc,h5⟩:=r1.one e0;have hd:ar cs ws a=gf a ia 0 ws cs[a]:=by unfold ar;rw [Int.toNat_natCast];simp [e0]
 have HD:=h_ hd;obtain⟨wa,h1⟩:∃wa,wa=w.alloc (.cells #[.slice (some ⟨b0,o0,none⟩) cs.length c,.slice A' ws.length c'] 25):=⟨_,rfl⟩;rw [←h1]at p0 p1 h0 r1 r2 h5;have h4:=h_ h1;generalize cs[a]=d at*;clear hd e0 h1;have i2:(a:Int) < (cs.length:Int):=by omega
 go_enter Tryz.func24,Tryz.ntmps24;go_wp2;rw [←h4.o];go_loop [5] (fun v5=>∃i:Int,-1≤i∧i <ws.length∧v5= .int .i64 i∧Hid (ar cs ws a=gf a ia 0 (ws.take (i+1).toNat) d)) (fun v5=>(intOf v5+1).toNat)
 case atStart=>exact⟨(ws.length:Int)-1,by omega,by omega,by go_num,by simp only [Hid];rw [show((ws.length:Int)-1+1).toNat=ws.length by omega,List.take_length];exact HD.o⟩
 case round=>
  obtain⟨i,h8,h9,rfl,hN⟩:=hrel;by_cases hi:0≤i
  ·obtain⟨k,rfl⟩:∃k:Nat,i=k:=⟨i.toNat,by omega⟩;have hk:k <ws.length:=by omega
   obtain⟨pa,pt,e1⟩:∃pa pt,ws[k]?=some (⟨pa,pt⟩:ae):=⟨ws[k].At,ws[k].Text,gE hk⟩;obtain⟨b,o,rfl,hf,h2,h6⟩:=Gv r2 e1;simp only at h2 h6;have hl:=Cw (a:=a) (K:=ia) (d:=d) e1;rw [show((k:Int)+1).toNat=k+1 by omega]at hN;by_cases he:pa=a
   ·subst he;have F:Hid (ar cs ws a=pt):=by simp only [Hid];rw [hN.o,hl,if_pos ⟨rfl,rfl⟩]
    have g:((a:Int)==(a:Int))=true:=beq_iff_eq.2 rfl;clear hl hN e1 HD;go_wp2;go_ret;exact⟨by rw [F.o];rfl,h0⟩
   ·have F:Hid (ar cs ws a=gf a ia 0 (ws.take k) d):=by simp only [Hid];rw [hN.o,hl,if_neg (fun h=>he h.1)]
    have g:(pa==(a:Int))=false:=bF he;clear hl hN e1 HD he;go_wp2;go_round
    case rel=>exact⟨(k:Int)-1,by omega,by omega,by go_num,by simp only [Hid];rw [show((k:Int)-1+1).toNat=k by omega];exact F.o⟩
    case measure=>(simp [intOf];try omega)
  ·have F:Hid (ar cs ws a=d):=by simp only [Hid];rw [hN.o,show(i+1).toNat=0 by omega];rfl
   clear hN HD;go_wp2;go_ret;exact⟨by rw [F.o];rfl,h0⟩
def Ex(f:FuncId)(caps:Array Value)(B:Nat)(w:World)(N:Nat)(K:Nat→Bool):Prop:=
 ∀(i:Nat) (W:World),i <N→Below B w W→Calls Tryz.prog f (#[.int .i64 (i:Int)]++caps) W fun e w'=>e= .returned (.bool (K i))∧Below W.heap.size W w'
theorem Kp(f:FuncId)(caps:Array Value)(K:Nat→Bool)(A:Option Addr)(n c:Nat)(cs:List ByteArray)(A':Option Addr)(n' c':Nat)(ws:List ae)(a:Nat)(w:World)(r:ab w w.heap.size A n c (fun z=>[.string z]) 1 cs)(r':ab w w.heap.size A' n' c' ae.cells 2 ws)(ha:a <cs.length)(hws:ws.length≤400)(hK:Ex f caps w.heap.size w ws.length K)(hcf:∀args W,(callFunc f args).run Tryz.prog W= .ok (.enter f args) W):Calls Tryz.prog 64 #[.agg #[.slice A n c,.slice A' n' c'],.int .i64 a,.func (.func f) #[] caps] w fun e w'=>e= .returned (.string (gf a K 0 ws (cs.getD a ⟨#[]⟩)))∧Below w.heap.size w w':=by
 have hk:=r.len;obtain rfl:=hk;have hc:=r'.len;obtain rfl:=hc;obtain⟨p0,p1⟩:=E8 w (.slice A cs.length c) (.slice A' ws.length c') 25;have h0:Below w.heap.size w (w.alloc (.cells #[.slice A cs.length c,.slice A' ws.length c'] 25)):=br.alloc ler _;have e0:=gE ha;obtain⟨b0,o0,rfl,hm,h6⟩:=(r.below h0).one e0;have h9:=h6;have hd:cs.getD a ⟨#[]⟩=cs[a]:=by simp [e0]
 rw [hd];have HK:=h_ hK;obtain⟨wa,h1⟩:∃wa,wa=w.alloc (.cells #[.slice (some ⟨b0,o0,none⟩) cs.length c,.slice A' ws.length c'] 25):=⟨_,rfl⟩;have hz:w.heap.size <wa.heap.size:=by rw [h1];simp
 rw [←h1]at p0 p1 h0 h6;have r2:=r'.below h0;have hg:=h_ h1;generalize cs[a]=d at*;clear hd e0 h1 hK;have i2:(a:Int) < (cs.length:Int):=by omega
 go_enter Tryz.func64,Tryz.ntmps64;go_wp2;rw [←hg.o];clear h9;go_loopw [7,8,9,18] (fun v7 _ _ v18 wr=>∃i:Nat,i≤ws.length∧v18= .int .i64 i∧v7= .string (gf a K 0 (ws.take i) d)∧Below wa.heap.size wa wr) (fun _ _ _ v18 _=>ws.length- (intOf v18).toNat)
 case atStart=>exact⟨0,zl,rfl,rfl,br⟩
 case round=>
  obtain⟨i,hi,rfl,rfl,hb⟩:=hrel;have h7:=hb.size;have h2:Below w.heap.size w wr:=h0.trans (hb.mono (by omega));by_cases hlt:i <ws.length
  ·obtain⟨pa,pt,e1⟩:∃pa pt,ws[i]?=some (⟨pa,pt⟩:ae):=⟨ws[i].At,ws[i].Text,gE hlt⟩;obtain⟨b,o,rfl,hn,h8,hh⟩:=Gv (r'.below h2) e1;simp only at h8 hh;have hl:=Cw (a:=a) (K:=K) (d:=d) e1;have HL:=h_ hl;generalize gf a K 0 (ws.take i) d=L at*;have i1:(i:Int) < (ws.length:Int):=by omega
   have HB:=h_ hb;have HC:=h_ (HK.o i);clear hl e1 hb;by_cases he:pa=a
   ·subst he;have g:((a:Int)==(a:Int))=true:=beq_iff_eq.2 rfl;have hj:Hid (Calls Tryz.prog f (#[.int .i64 (i:Int)]++caps) (wr.alloc (.cells #[.int .i64 (a:Int),.string pt] 76)) fun e w'=>e= .returned (.bool (K i))∧Below (wr.alloc (.cells #[.int .i64 (a:Int),.string pt] 76)).heap.size (wr.alloc (.cells #[.int .i64 (a:Int),.string pt] 76)) w'):=HC.o _ hlt (h2.alloc h2.size _);have h4:Hid (∀x,x=K i→gf a K 0 (ws.take (i+1)) d=if x=true then pt else L):=fun x hx=>by rw [HL.o,hx];by_cases h:K i=true<;>simp [h]
    generalize K i=x at*;cases x
    all_goals
     go_wp2_with(refine hj.o.mono ?_;rintro e w2 ⟨rfl,h3⟩;obtain⟨k0,k1,kz⟩:=Cy h3;have h5:=h_ (HB.o.trans ((br.alloc ler _ |>.trans (h3.mono (by simp))).mono h7));clear h3);go_roundw
     case rel=>exact⟨i+1,by omega,by go_num,by rw [h4.o _ rfl];rfl,h5.o⟩
     case measure=>(simp [intOf];try omega)
   ·have g:(pa==(a:Int))=false:=bF he;have h4:Hid (gf a K 0 (ws.take (i+1)) d=L):=by simp only [Hid];rw [HL.o,if_neg (fun h=>he h.1)]
    have h5:=h_ (HB.o.alloc (show wa.heap.size≤wr.heap.size from h7) (.cells #[.int .i64 pa,.string pt] 76));clear he;go_wp2;go_roundw
    case rel=>exact⟨i+1,by omega,by go_num,by rw [h4.o],h5.o⟩
    case measure=>(simp [intOf];try omega)
  ·obtain rfl:i=ws.length:=by omega
   have i1:¬(ws.length:Int) < (ws.length:Int):=by omega
   have F:Hid (gf a K 0 (ws.take ws.length) d=gf a K 0 ws d):=by simp only [Hid];rw [List.take_length]
   rw [F.o];generalize hLL:gf a K 0 ws d=L at*;have hf:=h_ hLL;clear F hb hLL;go_wp2;go_ret;exact⟨by rw [hf.o];rfl,h2⟩
def qu(t:ByteArray)(w:World)(e:Ending)(w':World):Prop:=∃D q d,e= .returned (.tuple #[.int .i64 (scN t),.slice D q d,.bool (scB t),.bool (scO t)])∧ab w' w'.heap.size D q d bz.cells 4 (scL t)∧Below w.heap.size w w'
theorem Sj(w:World)(B:Nat):ab w B none 0 0 bz.cells 4 ([]:List bz):=⟨rfl,Nat.le_refl _,zl,fun i x h=>by simp at h⟩
theorem Bt{t:ByteArray}{w w':World}(h:¬n9 t)(hb:Below w.heap.size w w'):qu t w (.returned (.tuple #[.int .i64 0,.slice none 0 0,.bool false,.bool false])) w':=by obtain⟨a,b,c,d⟩:=Ow h;exact⟨none,0,0,by rw [a,c,d],by rw [b];exact Sj _ _,hb⟩
theorem oq{P:Program}{fn:Func}{p q r u:Tmp}(h:fn.results= #[.tmp p,.tmp q,.tmp r,.tmp u])(tmps:Array Value)(w:World):(results fn tmps).run P w= .ok (.tuple #[tmps.getD p undef,tmps.getD q undef,tmps.getD r undef,tmps.getD u undef]) w:=by simp [results,h]
theorem Kn:∀(args:Array Value) (W:World),(callFunc 65 args).run Tryz.prog W= .ok (.enter 65 args) W:=fun args W=>by kernel_rfl
theorem Iz(B:Nat)(w:World)(N:Nat):Ex 65 #[] B w N ia:=fun i W _ _=>by show Calls Tryz.prog 65 #[.int .i64 (i:Int)] W _;go_enter Tryz.func65,Tryz.ntmps65;go_wp2;go_ret;exact⟨rfl,br⟩
theorem Ov(A:Option Addr)(n c:Nat)(cs:List ByteArray)(A':Option Addr)(n' c':Nat)(ws:List ae)(k:Nat)(w:World)(r:ab w w.heap.size A n c (fun z=>[.string z]) 1 cs)(r':ab w w.heap.size A' n' c' ae.cells 2 ws)(hk:k <cs.length)(hws:ws.length≤400):Calls Tryz.prog 25 #[.agg #[.slice A n c,.slice A' n' c'],.int .i64 k] w (qu (ar cs ws k) w):=by
 have hf:=r.len;subst hf;have hd:=r'.len;subst hd;obtain⟨wa,h5⟩:∃wa,wa=w.alloc (.cells #[.slice A cs.length c,.slice A' ws.length c'] 25):=⟨_,rfl⟩;have h4:Below w.heap.size w wa:=by rw [h5];exact br.alloc ler _
 have h6:wa.heap[w.heap.size]?=some (.cells #[.slice A cs.length c,.slice A' ws.length c'] 25 (0,0)):=by rw [h5];exact A_ w _
 have h8:=h4.size;have RA:=h_ ((r.below h4).more h8);have hh:=h_ ((r'.below h4).more h8);have HN:Hid (∀W,Below wa.heap.size wa W→Calls Tryz.prog 24 #[.agg #[.slice A cs.length c,.slice A' ws.length c'],.int .i64 k] W fun e w'=>e= .returned (.string (ar cs ws k))∧Below W.heap.size W w'):=fun W h=>Sf A _ c cs A' _ c' ws k W ((RA.o.below h).more h.size) ((hh.o.below h).more h.size) hk hws
 have HO:Hid (∀t W,Calls Tryz.prog 48 #[.string t] W fun e w'=>e= .returned (.tuple #[.int .i64 (dg t),.int .i64 (d9 t),.string (aq t),.int .i64 (ch t)])∧Below W.heap.size W w'):=fun t W=>Rr t W
 have HR:Hid (∀t W,Calls Tryz.prog 51 #[.string t] W (u9 t W)):=fun t W=>u0y t W
 unfold u9 at HR;have q0:=rc0 h6;have q1:=rc1 h6;have i1:(k:Int) < (cs.length:Int):=by omega
 have h7:=h_ h5;have h1:=h_ h4;clear r r' h5 h4 h8 hk h6;generalize ar cs ws k=t at*;have h3:=h_ (HO.o t);have h9:=h_ (HR.o (aq t));by_cases hc:n9 t
 ·obtain⟨e1,e2,e3,e4⟩:=Gh hc;have F1:=h_ e1;have F2:=h_ e2;have F3:=h_ e3;have F4:=h_ e4;rw [hc.1,hc.2]at h3;clear hc e1 e2 e3 e4 HO HR;generalize d9 t=N at*;generalize aq t=T at*;generalize brL T=BL at*;generalize brB T=BB at*;generalize hbe:brE T=BE at*;have g1:(BE==0)=decide (BE=0):=rfl;go_enter Tryz.func25,Tryz.ntmps25
  go_wp2_with(first
   |(go_at_call 24;rw [←h7.o];refine(HN.o _ br).mono ?_;rintro e w1 ⟨rfl,h0⟩)
   |(go_at_call 48;refine(h3.o _).mono ?_;rintro e w2 ⟨rfl,h2⟩)
   |(go_at_call 51;refine(h9.o _).mono ?_;rintro e w3 ⟨D,q,d,rfl,r3,hg⟩))
  refine bodyPost_ret (oq rfl _ _) rfl ?_;exact⟨D,q,d,by rw [F1.o,F3.o,F4.o];rfl,by rw [F2.o];exact r3,h1.o.trans ((h0.trans ((h2.trans (hg.mono h2.size)).mono h0.size)).mono h1.o.size)⟩
 ·have HC:=h_ hc;by_cases he:ch t=0
  ·have ha:dg t≠1:=fun h=>hc ⟨he,h⟩
   have g1:(dg t !=1)=true:=bN ha;rw [he]at h3;clear he ha hc HO HR h9;generalize dg t=K at*;generalize d9 t=N at*;generalize aq t=T at*;go_enter Tryz.func25,Tryz.ntmps25
   go_wp2_with(first
    |(go_at_call 24;rw [←h7.o];refine(HN.o _ br).mono ?_;rintro e w1 ⟨rfl,h0⟩)
    |(go_at_call 48;refine(h3.o _).mono ?_;rintro e w2 ⟨rfl,h2⟩))
   refine bodyPost_ret (oq rfl _ _) rfl ?_;exact Bt HC.o (h1.o.trans ((h0.trans (h2.mono h0.size)).mono h1.o.size))
  ·have g1:(ch t !=0)=true:=bN he;clear he hc HO HR h9;generalize ch t=E at*;generalize dg t=K at*;generalize d9 t=N at*;generalize aq t=T at*;go_enter Tryz.func25,Tryz.ntmps25
   go_wp2_with(first
    |(go_at_call 24;rw [←h7.o];refine(HN.o _ br).mono ?_;rintro e w1 ⟨rfl,h0⟩)
    |(go_at_call 48;refine(h3.o _).mono ?_;rintro e w2 ⟨rfl,h2⟩))
   refine bodyPost_ret (oq rfl _ _) rfl ?_;exact Bt HC.o (h1.o.trans ((h0.trans (h2.mono h0.size)).mono h1.o.size))
theorem g0g(A:Option Addr)(n c:Nat)(cs:List ByteArray)(A':Option Addr)(n' c':Nat)(ws:List ae)(k:Nat)(w:World)(r:ab w w.heap.size A n c (fun z=>[.string z]) 1 cs)(r':ab w w.heap.size A' n' c' ae.cells 2 ws)(hk:k <cs.length)(hws:ws.length≤400)(hk2:2≤k):Calls Tryz.prog 66 #[.agg #[.slice A n c,.slice A' n' c'],.int .i64 k] w (qu (ar cs ws k) w):=by
 have hf:=r.len;subst hf;have hd:=r'.len;subst hd;obtain⟨wa,h5⟩:∃wa,wa=w.alloc (.cells #[.slice A cs.length c,.slice A' ws.length c'] 25):=⟨_,rfl⟩;have h4:Below w.heap.size w wa:=by rw [h5];exact br.alloc ler _
 have h6:wa.heap[w.heap.size]?=some (.cells #[.slice A cs.length c,.slice A' ws.length c'] 25 (0,0)):=by rw [h5];exact A_ w _
 have h8:=h4.size;have RA:=h_ ((r.below h4).more h8);have hh:=h_ ((r'.below h4).more h8);have HN:Hid (∀W,Below wa.heap.size wa W→Calls Tryz.prog 64 #[.agg #[.slice A cs.length c,.slice A' ws.length c'],.int .i64 k,.func (.func 65) #[] #[]] W fun e w'=>e= .returned (.string (ar cs ws k))∧Below W.heap.size W w'):=fun W h=>Kp 65 #[] ia A _ c cs A' _ c' ws k W ((RA.o.below h).more h.size) ((hh.o.below h).more h.size) hk hws (Iz _ _ _) Kn
 have HO:Hid (∀t W,Calls Tryz.prog 95 #[.string t] W fun e w'=>e= .returned (.tuple #[.int .i64 (dg t),.int .i64 (d9 t),.string (aq t),.int .i64 (ch t)])∧Below W.heap.size W w'):=fun t W=>Fz t W
 have HR:Hid (∀t W,Calls Tryz.prog 98 #[.string t] W (u9 t W)):=fun t W=>u0w t W
 unfold u9 at HR;have q0:=rc0 h6;have q1:=rc1 h6;have i1:(k:Int) < (cs.length:Int):=by omega
 have i2:¬(k:Int) <2:=by omega
 have i3:(2:Int)≤(k:Int):=by omega
 have h7:=h_ h5;have h1:=h_ h4;clear r r' h5 h4 h8 hk h6 hk2;generalize ar cs ws k=t at*;have h3:=h_ (HO.o t);have h9:=h_ (HR.o (aq t));by_cases hc:n9 t
 ·obtain⟨e1,e2,e3,e4⟩:=Gh hc;have F1:=h_ e1;have F2:=h_ e2;have F3:=h_ e3;have F4:=h_ e4;rw [hc.1,hc.2]at h3;clear hc e1 e2 e3 e4 HO HR;generalize d9 t=N at*;generalize aq t=T at*;generalize brL T=BL at*;generalize brB T=BB at*;generalize hbe:brE T=BE at*;have g1:(BE==0)=decide (BE=0):=rfl;go_enter Tryz.func66,Tryz.ntmps66
  go_wp2_with(first
   |(go_at_call 64;rw [←h7.o];refine(HN.o _ br).mono ?_;rintro e w1 ⟨rfl,h0⟩)
   |(go_at_call 95;refine(h3.o _).mono ?_;rintro e w2 ⟨rfl,h2⟩)
   |(go_at_call 98;refine(h9.o _).mono ?_;rintro e w3 ⟨D,q,d,rfl,r3,hg⟩))
  refine bodyPost_ret (oq rfl _ _) rfl ?_;exact⟨D,q,d,by rw [F1.o,F3.o,F4.o];rfl,by rw [F2.o];exact r3,h1.o.trans ((h0.trans ((h2.trans (hg.mono h2.size)).mono h0.size)).mono h1.o.size)⟩
 ·have HC:=h_ hc;by_cases he:ch t=0
  ·have ha:dg t≠1:=fun h=>hc ⟨he,h⟩
   have g1:(dg t !=1)=true:=bN ha;rw [he]at h3;clear he ha hc HO HR h9;generalize dg t=K at*;generalize d9 t=N at*;generalize aq t=T at*;go_enter Tryz.func66,Tryz.ntmps66
   go_wp2_with(first
    |(go_at_call 64;rw [←h7.o];refine(HN.o _ br).mono ?_;rintro e w1 ⟨rfl,h0⟩)
    |(go_at_call 95;refine(h3.o _).mono ?_;rintro e w2 ⟨rfl,h2⟩))
   refine bodyPost_ret (oq rfl _ _) rfl ?_;exact Bt HC.o (h1.o.trans ((h0.trans (h2.mono h0.size)).mono h1.o.size))
  ·have g1:(ch t !=0)=true:=bN he;clear he hc HO HR h9;generalize ch t=E at*;generalize dg t=K at*;generalize d9 t=N at*;generalize aq t=T at*;go_enter Tryz.func66,Tryz.ntmps66
   go_wp2_with(first
    |(go_at_call 64;rw [←h7.o];refine(HN.o _ br).mono ?_;rintro e w1 ⟨rfl,h0⟩)
    |(go_at_call 95;refine(h3.o _).mono ?_;rintro e w2 ⟨rfl,h2⟩))
   refine bodyPost_ret (oq rfl _ _) rfl ?_;exact Bt HC.o (h1.o.trans ((h0.trans (h2.mono h0.size)).mono h1.o.size))
end Go.Proofs.YtcldpfhpkbeaiadGreat
