/- A part of the proof of FsMounts. No condition of ours. -/
import Derived.Test.YtcldpfhpkbeaiadGreatFsMounts51
set_option maxRecDepth 100000
set_option maxHeartbeats 8000000
namespace Go.Proofs.YtcldpfhpkbeaiadGreat
section
open Go.RowKit Go.PlainAid
def ma(cs:List ByteArray)(ws:List ae)(w:World)(e:Ending)(w':World):Prop:=
 Below w.heap.size w w'∧((mtE cs ws=0∧ws=[]∧∃m s l A n c,mtM cs=some m∧ea cs m.1 m.2∧vis cs [] m.1 m.2 9 [] 0 []=some (s,l)∧e= .returned (.tuple #[.slice A n c,.int .i64 0])∧ab w' w'.heap.size A n c be.cells 3 l)∨
 (mtE cs ws≠0∧e= .returned (.tuple #[.slice none 0 0,.int .i64 (mtE cs ws)])))
theorem m0t{cs:List ByteArray}{w:World}{f:FuncId}{args:Array Value}(h:Calls Tryz.prog f args w (sc cs w)){m:List aa×List Int}(hm:mtM cs=some m)(hn:nwE cs []=0):Calls Tryz.prog f args w fun e w'=>∃ga oa ca gg og cg,e= .returned (.tuple #[.agg #[.slice (some ⟨ga,oa,none⟩) 48 ca,.slice (some ⟨gg,og,none⟩) 48 cg],.int .i64 (prN (nwU cs [])),.int .i64 (dr cs [] (prS (nwU cs []))),.bool true])∧ab w' w'.heap.size (some ⟨ga,oa,none⟩) 48 ca aa.cells 2 m.1∧ab w' w'.heap.size (some ⟨gg,og,none⟩) 48 cg (fun z=>[.int .i64 z]) 1 m.2∧Below w.heap.size w w'∧bu m.1 m.2=0:=
 h.mono fun _ _ ⟨hb,h⟩=>by
  rcases h with⟨m',ga,oa,ca,gg,og,cg,_,h1,h2,h3,h4,h5⟩|⟨h,_⟩
  ·rw [hm]at h1;injection h1 with h1;subst h1;exact⟨ga,oa,ca,gg,og,cg,h3,h4,h5,hb,h2⟩
  ·rcases h with h|h
   ·exact absurd hn h
   ·rw [hm]at h;cases h
theorem m0u{cs:List ByteArray}{w:World}{f:FuncId}{args:Array Value}(h:Calls Tryz.prog f args w (sc cs w))(hm:nwE cs []≠0∨mtM cs=none):Calls Tryz.prog f args w fun e w'=>e= .returned (.tuple #[.agg #[.slice none 0 0,.slice none 0 0],.int .i64 0,.int .i64 0,.bool false])∧Below w.heap.size w w':=
 h.mono fun _ _ ⟨hb,h⟩=>by
  rcases h with⟨m',ga,oa,ca,gg,og,cg,h0,h1,_⟩|⟨_,h⟩
  ·rcases hm with h|h
   ·exact absurd h0 h
   ·rw [h]at h1;cases h1
  ·exact⟨h,hb⟩
theorem n0c{cs:List ByteArray}{xs:List aa}{gs:List Int}{w:World}{f:FuncId}{args:Array Value}(h:Calls Tryz.prog f args w (tx cs xs gs w))(hr:ea cs xs gs):Calls Tryz.prog f args w fun e w'=>∃s l A n c,vis cs [] xs gs 9 [] 0 []=some (s,l)∧e= .returned (.tuple #[.slice A n c,.bool true])∧ab w' w'.heap.size A n c be.cells 3 l∧Below w.heap.size w w':=
 h.mono fun _ _ ⟨hb,h⟩=>by
  rcases h with⟨_,s,l,A,n,c,h1,h2,h3⟩|⟨h,_⟩
  ·exact⟨s,l,A,n,c,h1,h2,h3,hb⟩
  ·exact absurd hr h
theorem n0d{cs:List ByteArray}{xs:List aa}{gs:List Int}{w:World}{f:FuncId}{args:Array Value}(h:Calls Tryz.prog f args w (tx cs xs gs w))(hr:¬ea cs xs gs):Calls Tryz.prog f args w fun e w'=>e= .returned (.tuple #[.slice none 0 0,.bool false])∧Below w.heap.size w w':=
 h.mono fun _ _ ⟨hb,h⟩=>by
  rcases h with⟨h,_⟩|⟨_,h⟩
  ·exact absurd h hr
  ·exact⟨h,hb⟩
theorem Ij{cs:List ByteArray}(hd:au cs []=0)(hn:nwE cs []≠0):mtE cs []=18:=by
 rw [Su hd hn];by_cases h2:prE (nwT cs [])=0
 ·exact absurd (ve hd h2).1 hn
 ·exact(vf hd h2).1
theorem Ie{cs:List ByteArray}(hd:au cs []=0)(hn:nwE cs []=0):prE (nwU cs [])=0:=by
 by_cases h2:prE (nwT cs [])=0
 ·rw [(ve hd h2).2];exact h2
 ·rw [(vf hd h2).1]at hn;cases hn
theorem Ih{cs:List ByteArray}(hd:au cs []=0)(hn:nwE cs []=0):
 (mtM cs=none→mtE cs []=18)∧∀m,mtM cs=some m→(¬ea cs m.1 m.2→mtE cs []=18)∧
  (ea cs m.1 m.2→(prN (nwU cs [])=2147483647→mtE cs []=9)∧(prN (nwU cs [])≠2147483647→mtE cs []=0∧ld cs (syX cs [] m.1 m.2 (dr cs [] (prS (nwU cs []))) (prN (nwU cs [])))∧au (syX cs [] m.1 m.2 (dr cs [] (prS (nwU cs []))) (prN (nwU cs []))) []=0)):=by
 obtain⟨q1,q2,q3,q4⟩:=Gy (nwU cs [])
 have hs:kj cs [] (prS (nwU cs []))=0:=yn hd (by omega)
 obtain⟨q5,q6⟩:=On (cs:=cs) q4
 refine⟨St hd hn hs,fun m hm=>?_⟩
 obtain⟨h1,h2⟩:=Ss hd hn hs hm
 refine⟨h1,fun hw=>?_⟩
 have hi:=Bw (yv (Ie hd hn)) hm
 obtain⟨h3,h4⟩:=b0k (ser:=dr cs [] (prS (nwU cs []))) (t:=prN (nwU cs [])) hd hi hw (by omega) q6 q1 q2
 rw [h2 hw]
 exact⟨h3,h4⟩
theorem f0y(A:Option Addr)(n c:Nat)(cs:List ByteArray)(A':Option Addr)(n' c':Nat)(ws:List ae)(w:World)(r:ab w w.heap.size A n c (fun z=>[.string z]) 1 cs)(r':ab w w.heap.size A' n' c' ae.cells 2 ws):Calls Tryz.prog 5 #[.agg #[.slice A n c,.slice A' n' c']] w (ma cs ws w):=by
 have hC:=r.len;subst hC;have hz:=r'.len;subst hz;obtain⟨wa,hq⟩:∃wa,wa=w.alloc (.cells #[.slice A cs.length c,.slice A' ws.length c'] 25):=⟨_,rfl⟩;have hv:Below w.heap.size w wa:=by rw [hq];exact br.alloc ler _
 have hu:wa.heap[w.heap.size]?=some (.cells #[.slice A cs.length c,.slice A' ws.length c'] 25 (0,0)):=by rw [hq];exact A_ w _
 have h4:Hid (∀W,Below wa.heap.size wa W→Below w.heap.size w W∧W.cell? ⟨w.heap.size,0,none⟩=some (.slice A cs.length c)∧W.cell? ⟨w.heap.size,1,none⟩=some (.slice A' ws.length c')∧ab W W.heap.size A cs.length c (fun z=>[.string z]) 1 cs∧ab W W.heap.size A' ws.length c' ae.cells 2 ws):=h_ fun W hW=>by have hb:Below w.heap.size w W:=hv.trans (hW.mono hv.size);have e:=ah hu (ag hu) hW;exact⟨hb,aj e 0,aj e 1,(r.below hb).more hb.size,(r'.below hb).more hb.size⟩
 obtain⟨-,v0,v1,ra,hy⟩:=h4.o wa br;have ha:=h_ (K9 A _ c cs A' _ c' ws wa ra hy);have he:=h_ hq;have h7:Hid (∀E w',mtE cs ws=E→E≠0→Below w.heap.size w w'→ma cs ws w (.returned (.tuple #[.slice none 0 0,.int .i64 E])) w'):=h_ fun E w' h1 h2 h3=>⟨h3,.inr ⟨by rw [h1];exact h2,by rw [h1]⟩⟩
 clear r r' hv hu hq ra hy;by_cases hd:au cs ws=0
 ·rw [hd]at ha;by_cases hws:ws=[]
  ·subst hws;simp only [List.length_nil]at h4 ha v1 he;have hf:Hid (∀W,Below wa.heap.size wa W→Calls Tryz.prog 16 #[.agg #[.slice A cs.length c,.slice A' 0 c']] W (sc cs W)):=h_ fun W hW=>m0w A _ c cs A' c' W (h4.o W hW).2.2.2.1 (h4.o W hW).2.2.2.2 hd
   by_cases hno:nwE cs []≠0∨mtM cs=none
   ·have hB:=h_ (fun W hW=>m0u (hf.o W hW) hno)
    have h6:=h_ (fun w' h=>h7.o 18 w' (by
  rcases hno with h|h
  ·exact Ij hd h
  ·by_cases h2:nwE cs []=0
   ·exact(Ih hd h2).1 h
   ·exact Ij hd h2) (by decide) h)
    clear h7;generalize ma cs [] w=PP at*;clear hd hno hf;go_enter Tryz.func5,Tryz.ntmps5
    go_wp2_with(first
     |(go_at_call 15;rw [←he.o];refine ha.o.mono ?_;rintro e w1 ⟨rfl,h0⟩;have B1:=h_ h0;obtain⟨-,t0,t1,-,-⟩:=h4.o w1 h0;clear h0)
     |(go_at_call 16;refine(hB.o _ B1.o).mono ?_;rintro e w2 ⟨rfl,h5⟩;have B2:=h_ (h4.o _ ((B1.o.trans (h5.mono B1.o.size)).alloc (Nat.le_trans B1.o.size h5.size) (.cells #[.slice none 0 0,.slice none 0 0] 43))).1;clear h5))
    have HZ:=h6.o _ B2.o
    first|exact HZ|(go_ret2;exact HZ)
   ·have hn:nwE cs []=0:=Decidable.of_not_not (fun h=>hno (.inl h));cases hm:mtM cs with
    |none=>exact absurd (.inr hm) hno
    |some m=>
     obtain⟨_,hp⟩:=Ih hd hn;obtain⟨hr,hj⟩:=hp m hm;have hi:=Bw (yv (Ie hd hn)) hm;have hs:=h_ (fun W hW=>m0t (hf.o W hW) hm hn);have hh:Hid (∀W ga oa ca gg og cg,Below wa.heap.size wa W→ab W W.heap.size (some ⟨ga,oa,none⟩) 48 ca aa.cells 2 m.1→ab W W.heap.size (some ⟨gg,og,none⟩) 48 cg (fun z=>[.int .i64 z]) 1 m.2→Calls Tryz.prog 17 #[.agg #[.slice A cs.length c,.slice A' 0 c'],.agg #[.slice (some ⟨ga,oa,none⟩) 48 ca,.slice (some ⟨gg,og,none⟩) 48 cg]] W (tx cs m.1 m.2 W)):=h_ fun W ga oa ca gg og cg hW h1 h2=>n0j A _ c cs A' c' _ ca m.1 _ cg m.2 W (h4.o W hW).2.2.2.1 (h4.o W hW).2.2.2.2 h1 h2 hd (p7 hi)
     by_cases hw:ea cs m.1 m.2
     ·have hx:=h_ (fun W ga oa ca gg og cg hW h1 h2=>n0c (hh.o W ga oa ca gg og cg hW h1 h2) hw);by_cases ht:prN (nwU cs [])=2147483647
      ·have h6:=h_ (fun w' h=>h7.o 9 w' ((hj hw).1 ht) (by decide) h);rw [ht]at hs;clear h7;generalize ma cs [] w=PP at*;clear hd hno hf hn hm hp hr hj hi hw ht hh;go_enter Tryz.func5,Tryz.ntmps5
       go_wp2_with(first
        |(go_at_call 15;rw [←he.o];refine ha.o.mono ?_;rintro e w1 ⟨rfl,h0⟩;have B1:=h_ h0;obtain⟨-,t0,t1,-,-⟩:=h4.o w1 h0;clear h0)
        |(go_at_call 16;refine(hs.o _ B1.o).mono ?_;rintro e w2 ⟨ga,oa,ca,gg,og,cg,rfl,hc,h8,h5,-⟩;have B2:=h_ ((B1.o.trans (h5.mono B1.o.size)).alloc (Nat.le_trans B1.o.size h5.size) (.cells #[.slice (some ⟨ga,oa,none⟩) 48 ca,.slice (some ⟨gg,og,none⟩) 48 cg] 43));have R2:=h_ (iv hc (.cells #[.slice (some ⟨ga,oa,none⟩) 48 ca,.slice (some ⟨gg,og,none⟩) 48 cg] 43));have G2:=h_ (iv h8 (.cells #[.slice (some ⟨ga,oa,none⟩) 48 ca,.slice (some ⟨gg,og,none⟩) 48 cg] 43));have X2:=h_ (A_ w2 (.cells #[.slice (some ⟨ga,oa,none⟩) 48 ca,.slice (some ⟨gg,og,none⟩) 48 cg] 43));have u0:=rc0 X2.o;have u1:=rc1 X2.o;obtain⟨-,u2,u3,-,-⟩:=h4.o _ B2.o;clear hc h8 h5)
        |(go_at_call 17;refine(hx.o _ _ _ _ _ _ _ B2.o R2.o G2.o).mono ?_;rintro e w3 ⟨s,l,LA,ln,lc,hk,rfl,hg,h9⟩;have HV:=h_ hk;have R3:=h_ hg;have B3:=h_ (h4.o w3 (B2.o.trans (h9.mono B2.o.size))).1;clear hk hg h9))
       have HZ:=h6.o _ B3.o
       first|exact HZ|(go_ret2;exact HZ)
      ·have h6:Hid (∀s l A n c w',vis cs [] m.1 m.2 9 [] 0 []=some (s,l)→ab w' w'.heap.size A n c be.cells 3 l→Below w.heap.size w w'→ma cs [] w (.returned (.tuple #[.slice A n c,.int .i64 0])) w'):=h_ fun s l A n c w' h1 h2 h3=>⟨h3,.inl ⟨((hj hw).2 ht).1,rfl,m,s,l,A,n,c,hm,hw,h1,rfl,h2⟩⟩
       have g5:(prN (nwU cs [])==2147483647)=false:=bF ht;clear h7;generalize ma cs [] w=PP at*;generalize prN (nwU cs [])=tn at*;clear hd hno hf hn hm hp hr hj hi hw ht hh;go_enter Tryz.func5,Tryz.ntmps5
       go_wp2_with(first
        |(go_at_call 15;rw [←he.o];refine ha.o.mono ?_;rintro e w1 ⟨rfl,h0⟩;have B1:=h_ h0;obtain⟨-,t0,t1,-,-⟩:=h4.o w1 h0;clear h0)
        |(go_at_call 16;refine(hs.o _ B1.o).mono ?_;rintro e w2 ⟨ga,oa,ca,gg,og,cg,rfl,hc,h8,h5,-⟩;have B2:=h_ ((B1.o.trans (h5.mono B1.o.size)).alloc (Nat.le_trans B1.o.size h5.size) (.cells #[.slice (some ⟨ga,oa,none⟩) 48 ca,.slice (some ⟨gg,og,none⟩) 48 cg] 43));have R2:=h_ (iv hc (.cells #[.slice (some ⟨ga,oa,none⟩) 48 ca,.slice (some ⟨gg,og,none⟩) 48 cg] 43));have G2:=h_ (iv h8 (.cells #[.slice (some ⟨ga,oa,none⟩) 48 ca,.slice (some ⟨gg,og,none⟩) 48 cg] 43));have X2:=h_ (A_ w2 (.cells #[.slice (some ⟨ga,oa,none⟩) 48 ca,.slice (some ⟨gg,og,none⟩) 48 cg] 43));have u0:=rc0 X2.o;have u1:=rc1 X2.o;obtain⟨-,u2,u3,-,-⟩:=h4.o _ B2.o;clear hc h8 h5)
        |(go_at_call 17;refine(hx.o _ _ _ _ _ _ _ B2.o R2.o G2.o).mono ?_;rintro e w3 ⟨s,l,LA,ln,lc,hk,rfl,hg,h9⟩;have HV:=h_ hk;have R3:=h_ hg;have B3:=h_ (h4.o w3 (B2.o.trans (h9.mono B2.o.size))).1;clear hk hg h9))
       have HZ:=h6.o _ _ _ _ _ _ HV.o R3.o B3.o
       first|exact HZ|(go_ret2;exact HZ)
     ·have hA:=h_ (fun W ga oa ca gg og cg hW h1 h2=>n0d (hh.o W ga oa ca gg og cg hW h1 h2) hw);have h6:=h_ (fun w' h=>h7.o 18 w' (hr hw) (by decide) h);clear h7;generalize ma cs [] w=PP at*;clear hd hno hf hn hm hp hr hj hi hw hh;go_enter Tryz.func5,Tryz.ntmps5
      go_wp2_with(first
       |(go_at_call 15;rw [←he.o];refine ha.o.mono ?_;rintro e w1 ⟨rfl,h0⟩;have B1:=h_ h0;obtain⟨-,t0,t1,-,-⟩:=h4.o w1 h0;clear h0)
       |(go_at_call 16;refine(hs.o _ B1.o).mono ?_;rintro e w2 ⟨ga,oa,ca,gg,og,cg,rfl,hc,h8,h5,-⟩;have B2:=h_ ((B1.o.trans (h5.mono B1.o.size)).alloc (Nat.le_trans B1.o.size h5.size) (.cells #[.slice (some ⟨ga,oa,none⟩) 48 ca,.slice (some ⟨gg,og,none⟩) 48 cg] 43));have R2:=h_ (iv hc (.cells #[.slice (some ⟨ga,oa,none⟩) 48 ca,.slice (some ⟨gg,og,none⟩) 48 cg] 43));have G2:=h_ (iv h8 (.cells #[.slice (some ⟨ga,oa,none⟩) 48 ca,.slice (some ⟨gg,og,none⟩) 48 cg] 43));have X2:=h_ (A_ w2 (.cells #[.slice (some ⟨ga,oa,none⟩) 48 ca,.slice (some ⟨gg,og,none⟩) 48 cg] 43));have u0:=rc0 X2.o;have u1:=rc1 X2.o;obtain⟨-,u2,u3,-,-⟩:=h4.o _ B2.o;clear hc h8 h5)
       |(go_at_call 17;refine(hA.o _ _ _ _ _ _ _ B2.o R2.o G2.o).mono ?_;rintro e w3 ⟨rfl,h9⟩;have B3:=h_ (h4.o w3 (B2.o.trans (h9.mono B2.o.size))).1;clear h9))
      have HZ:=h6.o _ B3.o
      first|exact HZ|(go_ret2;exact HZ)
  ·have h6:=h_ (fun w' h=>h7.o 1 w' (Ik hd hws) (by decide) h);have hl:0 <ws.length:=List.length_pos_iff.2 hws;clear h7;generalize ma cs ws w=PP at*;clear hd hws;go_enter Tryz.func5,Tryz.ntmps5;go_wp2_with(go_at_call 15;rw [←he.o];refine ha.o.mono ?_;rintro e w1 ⟨rfl,h0⟩;obtain⟨b1,t0,t1,-,-⟩:=h4.o w1 h0;have B1:=h_ b1;clear h0 b1);have HZ:=h6.o _ B1.o
   first|exact HZ|(go_ret2;exact HZ)
 ·have hE:mtE cs ws=au cs ws:=by unfold mtE;exact if_pos hd
  have g1:(au cs ws !=0)=true:=bN hd;have h6:Hid (∀w',Below w.heap.size w w'→ma cs ws w (.returned (.tuple #[.slice none 0 0,.int .i64 (au cs ws)])) w'):=h_ fun w' hb=>h7.o _ w' hE hd hb
  clear h7;generalize ma cs ws w=PP at*;generalize au cs ws=E at*;clear hd hE;go_enter Tryz.func5,Tryz.ntmps5;go_wp2_with(go_at_call 15;rw [←he.o];refine ha.o.mono ?_;rintro e w1 ⟨rfl,h0⟩;have B1:=h_ (h4.o _ h0).1;clear h0);have HZ:=h6.o _ B1.o
  first|exact HZ|(go_ret2;exact HZ)
def Ly(l:List be)(w:World)(e:Ending)(w':World):Prop:=∃A n c,e= .returned (.slice A n c)∧ab w' w'.heap.size A n c be.cells 3 l∧Below w.heap.size w w'
theorem w0s(b:Nat)(cs:List ByteArray)(xs:List aa)(gs fr:List Int)(os:List OpD)(v:FsV)(w:World)(h:FsT b cs [] xs gs fr os v w)(hd:au cs []=0)(hx:xs.length=48)(hg:gs.length=48)(s:List Nat)(l:List be)(hv:vis cs [] xs gs 9 [] 0 []=some (s,l))(hl:l.length≤1000):Calls Tryz.prog 7 #[.pointer (some ⟨b,0,none⟩)] w (Ly l w):=by
 obtain⟨wa,h0⟩:∃wa,wa=(w.alloc (.cells #[.pointer (some ⟨b,0,none⟩)] 26)).alloc (.cells #[.slice none 0 0] 30):=⟨_,rfl⟩;have h6:Below w.heap.size w wa:=by rw [h0];exact(br.alloc ler _).alloc (by simp) _
 have h1:wa.heap[w.heap.size]?=some (.cells #[.pointer (some ⟨b,0,none⟩)] 26 (0,0)):=by rw [h0];exact cq (A_ w _) _
 have h5:wa.heap[w.heap.size+1]?=some (.cells #[.slice none 0 0] 30 (0,0)):=by rw [h0];exact pd w _ _
 have hI:ItI (w.heap.size+1) w.heap.size 30 w [] none 0 wa:= {below:=h6,obox:=h5,own:=af.nil _ _ _,lo:=Nat.le_succ _};have h4:=Zw b (w.heap.size+1) w.heap.size 30 26 cs xs gs fr os v w h hd hx hg (by omega) 9 [] 0 [] wa [] none 0 s l (by omega) hv hI h1 (by simpa using hl) (by decide);have HC:=h_ h4;have h7:=h_ h0;have k0:=rc0 h1;clear h hd hx hg hv hl h6 h1 h5 hI h4 h0;go_enter Tryz.func7,Tryz.ntmps7;go_wp2_with(rw [←h7.o];refine HC.o.mono ?_;rintro e w4 ⟨rfl,A4,c4,h2,_⟩;have h3:=h_ h2;have o0:=aj h2.obox 0;clear h2);have HZ:Ly l w (.returned (.slice A4 l.length c4)) w4:=⟨A4,l.length,c4,rfl,by have:=h3.o.own;exact this.rows be.len (by decide),h3.o.below⟩
 first|exact HZ|(go_ret;exact HZ)|(go_ret2;exact HZ)
end
section
open Go.RowKit
def Z7(w:World)(e:Ending)(w':World):Prop:=∃A n c A' c',e= .returned (.agg #[.slice A n c,.slice A' 0 c'])∧Below w.heap.size w w'
abbrev Fe:Array Value:= #[.slice none 0 0,.slice none 0 0]
theorem s0t(b:Nat)(cs:List ByteArray)(xs:List aa)(gs fr:List Int)(os:List OpD)(v:FsV)(w:World)(h:FsT b cs [] xs gs fr os v w)(hcs:cs.length≤128):Calls Tryz.prog 8 #[.pointer (some ⟨b,0,none⟩)] w (Z7 w):=by
 have hn:v.wn=0:=by have:=h.rw'.len;simpa using this.symm
 have hh:v.cn≤128:=by rw [←h.rc.len];exact hcs
 obtain⟨wa,h6⟩:∃wa,wa=w.alloc (.cells Fe 25):=⟨_,rfl⟩;have h3:Below w.heap.size w wa:=by rw [h6];exact br.alloc ler _
 have ha:wa.heap[w.heap.size]?=some (.cells Fe 25 (0,0)):=by rw [h6];exact A_ w _
 have HK:Hid (∀W,Below wa.heap.size wa W→FsT b cs [] xs gs fr os v W∧W.heap[w.heap.size]?=some (.cells Fe 25 (0,0))∧Below w.heap.size w W∧wa.heap.size≤W.heap.size):=fun W hW=>⟨h.below (h3.trans (hW.mono h3.size)),ah ha (ag ha) hW,h3.trans (hW.mono h3.size),hW.size⟩
 have k0:=HK.o wa br;have c0:=rc0 k0.1.box;have c1:=rc1 k0.1.box;rw [hn]at c1;have hf:Hid (∀W,Below wa.heap.size wa W→ab W W.heap.size v.cA v.cn v.cc (fun z:ByteArray=>[.string z]) 1 cs):=fun W hW=>(HK.o W hW).1.rc
 have hd:Hid (∀W,Below wa.heap.size wa W→ab W W.heap.size v.wA 0 v.wc ae.cells 2 []):=fun W hW=>by have:=(HK.o W hW).1.rw';rw [hn]at this;exact this
 have h5:Hid (∀W,Below wa.heap.size wa W→W.cell? ⟨b,0,none⟩=some (.slice v.cA v.cn v.cc)∧W.cell? ⟨b,1,none⟩=some (.slice v.wA 0 v.wc)∧W.cell? ⟨w.heap.size,0,none⟩=some (.slice none 0 0)∧W.cell? ⟨w.heap.size,1,none⟩=some (.slice none 0 0)∧W.frozen? ⟨w.heap.size,0,none⟩=false∧W.frozen? ⟨w.heap.size,1,none⟩=false):=fun W hW=>by obtain⟨h1,h2,_,_⟩:=HK.o W hW;have e:=aj h1.box 1;refine⟨aj h1.box 0,?_,aj h2 0,aj h2 1,ak h2 0,ak h2 1⟩;rw [←hn];exact e
 have g1:Hid (∀z:ByteArray,([Value.string z]:List Value).length=1):=fun _=>rfl
 have g2:Hid (∀(z:ByteArray),∀u∈([Value.string z]:List Value),u.oneCell'=true):=fun z u hu=>by simp at hu;subst hu;rfl
 have g3:Hid (∀z:ae,(ae.cells z).length=2):=fun _=>rfl
 have g4:Hid (∀(z:ae),∀u∈ae.cells z,u.oneCell'=true):=fun z u hu=>by simp [ae.cells]at hu;rcases hu with rfl|rfl<;>rfl
 have g5:Hid (v.cn≤maxLen∧v.cn*16≤140737488355328∧0≤maxLen∧0*24≤140737488355328∧0 <1∧0 <2):=by unfold maxLen;simp only [Hid];omega
 have h7:Hid (Below wa.heap.size wa wa.drew):=br.drew;have hc:=h_ h6;clear h hn h3 ha h6 k0 hh hcs;go_enter Tryz.func8,Tryz.ntmps8;go_wp2;rw [←hc.o];clear hc
 go_region_law(first
  |(refine yg rfl (.const (.slice none 0 0)) (.tmp 15) 23 rfl Tryz.underlying23 D7 rfl g5.o.2.2.2.2.2 rfl rfl (hd.o _ h0.o) g3.o g4.o g5.o.2.2.1 g5.o.2.2.2.1 ?_;intro A3 c3 w3 hg h9;have h4:Hid (Below wa.heap.size wa w3):=h_ (h0.o.trans (h9.mono h0.o.size));obtain⟨u0,u1,u2,u3,u4,u5⟩:=h5.o w3 h4.o)
  |(refine yg rfl (.const (.slice none 0 0)) (.tmp 8) 22 rfl Tryz.underlying22 qf rfl g5.o.2.2.2.2.1 rfl rfl (hf.o _ h0.o) g1.o g2.o g5.o.1 g5.o.2.1 ?_;intro A3 c3 w3 hg h9;have h4:Hid (Below wa.heap.size wa w3):=h_ (h0.o.trans (h9.mono h0.o.size));obtain⟨u0,u1,u2,u3,u4,u5⟩:=h5.o w3 h4.o)
  |(refine yg rfl (.const (.slice none 0 0)) (.tmp 15) 23 rfl Tryz.underlying23 D7 rfl g5.o.2.2.2.2.2 rfl rfl (hd.o _ h7.o) g3.o g4.o g5.o.2.2.1 g5.o.2.2.2.1 ?_;intro A2 c2 w2 hj h8;have h0:Hid (Below wa.heap.size wa w2):=h_ (h7.o.trans h8);obtain⟨t0,t1,t2,t3,t4,t5⟩:=h5.o w2 h0.o)
  |(refine yg rfl (.const (.slice none 0 0)) (.tmp 8) 22 rfl Tryz.underlying22 qf rfl g5.o.2.2.2.2.1 rfl rfl (hf.o _ h7.o) g1.o g2.o g5.o.1 g5.o.2.1 ?_;intro A2 c2 w2 hj h8;have h0:Hid (Below wa.heap.size wa w2):=h_ (h7.o.trans h8);obtain⟨t0,t1,t2,t3,t4,t5⟩:=h5.o w2 h0.o))
 all_goals
  have HR:=h_ ((HK.o w3 h4.o).2.1);have he:=h_ ((HK.o w3 h4.o).2.2.1);go_wp2
  first
   |(refine bodyPost_ret (results_cell_row rfl _ _ w.heap.size 25 #[.slice A2 v.cn c2,.slice A3 0 c3] (0,0) _ rfl (b9 (j:=1) (v:=.slice A3 0 c3) (b9 (j:=0) (v:=.slice A2 v.cn c2) HR.o)) Tryz.underlying25 rfl jy) rfl ?_;exact⟨_,_,_,_,_,rfl,(he.o.setCell (p:=⟨w.heap.size,0,none⟩) ler _).setCell (p:=⟨w.heap.size,1,none⟩) ler _⟩)
   |(refine bodyPost_ret (results_cell_row rfl _ _ w.heap.size 25 #[.slice A3 v.cn c3,.slice A2 0 c2] (0,0) _ rfl (b9 (j:=1) (v:=.slice A2 0 c2) (b9 (j:=0) (v:=.slice A3 v.cn c3) HR.o)) Tryz.underlying25 rfl jy) rfl ?_;exact⟨_,_,_,_,_,rfl,(he.o.setCell (p:=⟨w.heap.size,0,none⟩) ler _).setCell (p:=⟨w.heap.size,1,none⟩) ler _⟩)
theorem r0y(A:Option Addr)(n c:Nat)(xs:List be)(A':Option Addr)(n' c':Nat)(B B':Nat)(w:World)(r:ab w B A n c be.cells 3 xs)(r':ab w B' A' n' c' be.cells 3 xs):Calls Tryz.prog 6 #[.slice A n c,.slice A' n' c'] w fun e w'=>e= .returned (.bool true)∧Below w.heap.size w w':=by
 have hn:=r.len;have h6:=r'.len;subst hn;subst h6;have hf:(xs.length:Int)≤9223372036854775807:=by have h1:=r.le;have h2:=r.top;unfold maxLen at h2;omega
 go_enter Tryz.func6,Tryz.ntmps6;go_wp2;go_loopw [13] (fun v13 wr=>∃i:Nat,i≤xs.length∧v13= .int .i64 i∧Below w.heap.size w wr∧Hid (∀p:Addr,wr.cell? p=w.cell? p)) (fun v13 _=>xs.length- (intOf v13).toNat)
 case atStart=>exact⟨0,zl,rfl,br,fun _=>rfl⟩
 case round=>
  obtain⟨i,hi,rfl,h3,RK⟩:=hrel;by_cases hlt:i <xs.length
  ·have e1:=gE hlt;generalize xs[i]=x at e1;have ha:(i:Int) < (xs.length:Int):=by omega
   obtain⟨b,o,rfl,hg,hc⟩:=(r.keep (w':=wr) (fun p _=>RK.o p)).at_ i _ e1;obtain⟨b',o',rfl,hd,h0⟩:=(r'.keep (w':=wr) (fun p _=>RK.o p)).at_ i _ e1;obtain⟨f0,f1,f2⟩:=x;have h4:=hc 0 _ rfl;have h5:=h0 0 _ rfl;have h9:=hc 1 _ rfl;have he:=h0 1 _ rfl;have h7:=hc 2 _ rfl;have h8:=h0 2 _ rfl;simp only [Nat.add_zero]at h4 h5;generalize mkS (if f0=[]then [47]else f0)=s0 at*;clear hc h0;clear e1;go_wp2;go_quiet(fail);go_wp2;go_roundw
   case rel=>exact⟨i+1,by omega,by go_num,below_drewN h3 _,fun p=>RK.o p⟩
   case measure=>(simp [intOf];try omega)
  ·go_wp2;go_ret;exact⟨rfl,h3⟩
end
end Go.Proofs.YtcldpfhpkbeaiadGreat
namespace Go.Proofs.YtcldpfhpkbeaiadGreat.lFsMounts
open Go.RowKit
theorem k0t{cs:List ByteArray}{ws:List ae}{w:World}{f:FuncId}{args:Array Value}(h:Calls Tryz.prog f args w (pj cs ws w))(hr:mtE cs ws=0):Calls Tryz.prog f args w fun e w'=>∃b m v fr os,e= .returned (.tuple #[.pointer (some ⟨b,0,none⟩),.int .i64 0])∧mtM cs=some m∧FsT b (syX cs [] m.1 m.2 (dr cs [] (prS (nwU cs []))) (prN (nwU cs []))) [] m.1 m.2 fr os v w'∧Below w.heap.size w w':=
 h.mono fun _ _ ⟨hb,h⟩=>by
  rcases h with⟨_,b,m,v,fr,os,h1,h2,_,h3⟩|⟨h,_⟩
  ·exact⟨b,m,v,fr,os,h1,h2,h3,hb⟩
  ·exact absurd hr h
theorem k0v{cs:List ByteArray}{ws:List ae}{w:World}{f:FuncId}{args:Array Value}(h:Calls Tryz.prog f args w (pj cs ws w))(hr:mtE cs ws≠0):Calls Tryz.prog f args w fun e w'=>e= .returned (.tuple #[.pointer none,.int .i64 (mtE cs ws)])∧Below w.heap.size w w':=
 h.mono fun _ _ ⟨hb,h⟩=>by
  rcases h with⟨h,_⟩|⟨_,h⟩
  ·exact absurd h hr
  ·exact⟨h,hb⟩
theorem g0c{cs:List ByteArray}{ws:List ae}{w:World}{f:FuncId}{args:Array Value}(h:Calls Tryz.prog f args w (ma cs ws w))(hr:mtE cs ws=0):Calls Tryz.prog f args w fun e w'=>∃m s l A n c,mtM cs=some m∧ea cs m.1 m.2∧vis cs [] m.1 m.2 9 [] 0 []=some (s,l)∧e= .returned (.tuple #[.slice A n c,.int .i64 0])∧ab w' w'.heap.size A n c be.cells 3 l∧Below w.heap.size w w':=
 h.mono fun _ _ ⟨hb,h⟩=>by
  rcases h with⟨_,_,m,s,l,A,n,c,h1,h2,h3,h4,h5⟩|⟨h,_⟩
  ·exact⟨m,s,l,A,n,c,h1,h2,h3,h4,h5,hb⟩
  ·exact absurd hr h
theorem g0d{cs:List ByteArray}{ws:List ae}{w:World}{f:FuncId}{args:Array Value}(h:Calls Tryz.prog f args w (ma cs ws w))(hr:mtE cs ws≠0):Calls Tryz.prog f args w fun e w'=>e= .returned (.tuple #[.slice none 0 0,.int .i64 (mtE cs ws)])∧Below w.heap.size w w':=
 h.mono fun _ _ ⟨hb,h⟩=>by
  rcases h with⟨h,_⟩|⟨_,h⟩
  ·exact absurd h hr
  ·exact⟨h,hb⟩
theorem Sr{cs:List ByteArray}{ws:List ae}(h:mtE cs ws=0):au cs ws=0∧ws=[]:=by
 by_cases h1:au cs ws=0
 ·refine⟨h1,?_⟩;by_cases h2:ws=[]
  ·exact h2
  ·rw [Ik h1 h2]at h;cases h
 ·have:mtE cs ws=au cs ws:=by unfold mtE;exact if_pos h1
  exact absurd (this.symm.trans h) h1
theorem k0x{cs:List ByteArray}(h:mtE cs []=0){m:List aa×List Int}{s:List Nat}{l:List be}(hm:mtM cs=some m)(hw:ea cs m.1 m.2)(hv:vis cs [] m.1 m.2 9 [] 0 []=some (s,l)):au (syX cs [] m.1 m.2 (dr cs [] (prS (nwU cs []))) (prN (nwU cs []))) []=0∧vis (syX cs [] m.1 m.2 (dr cs [] (prS (nwU cs []))) (prN (nwU cs []))) [] m.1 m.2 9 [] 0 []=some (s,l)∧m.1.length=48∧m.2.length=48∧l.length≤48∧(syX cs [] m.1 m.2 (dr cs [] (prS (nwU cs []))) (prN (nwU cs []))).length≤128:=by
 have hd:=(Sr h).1
 have hn:nwE cs []=0:=by
  by_cases h2:nwE cs []=0
  ·exact h2
  ·rw [Ij hd h2]at h;cases h
 obtain⟨_,hp⟩:=Ih hd hn;obtain⟨_,h0⟩:=hp m hm;obtain⟨h3,h4⟩:=h0 hw;by_cases ht:prN (nwU cs [])=2147483647
 ·rw [h3 ht]at h;cases h
 ·obtain⟨_,h5,h6⟩:=h4 ht;have hi:=te (Bw (yv (Ie hd hn)) hm);refine⟨h6,by rw [Ys h5];exact hv,hi.1,hi.2,Zz hv,?_⟩;rw [h5.len];exact(jz hd).2.1
theorem k0u{b:Nat}{cs:List ByteArray}{X:List aa×List Int→List ByteArray}{m m':List aa×List Int}{s:List Nat}{l:List be}{fr:List Int}{os:List OpD}{v:FsV}{w1 w2:World}(hm:mtM cs=some m)(hm':mtM cs=some m')(HAL:∀(m:List aa×List Int) (s:List Nat) (l:List be),mtM cs=some m→ea cs m.1 m.2→vis cs [] m.1 m.2 9 [] 0 []=some (s,l)→au (X m) []=0∧vis (X m) [] m.1 m.2 9 [] 0 []=some (s,l)∧m.1.length=48∧m.2.length=48∧l.length≤48∧(X m).length≤128)(hw:ea cs m'.1 m'.2)(hv:vis cs [] m'.1 m'.2 9 [] 0 []=some (s,l))(hf:FsT b (X m) [] m.1 m.2 fr os v w1)(hb:Below w1.heap.size w1 w2):Calls Tryz.prog 7 #[.pointer (some ⟨b,0,none⟩)] w2 (Ly l w2)∧∀W,Below w2.heap.size w2 W→Calls Tryz.prog 8 #[.pointer (some ⟨b,0,none⟩)] W (Z7 W):=by rw [hm]at hm';injection hm' with hm';subst hm';obtain⟨h1,h2,h3,h4,h5,h6⟩:=HAL m s l hm hw hv;have h0:=hf.below hb;exact⟨w0s b _ m.1 m.2 fr os v w2 h0 h1 h3 h4 s l h2 (by omega),fun W hW=>s0t b _ m.1 m.2 fr os v W (h0.below hW) h6⟩
theorem walk(a0_0:Option Addr)(n0_0 c0_0:Nat)(x0_0:List ByteArray)(a0_1:Option Addr)(n0_1 c0_1:Nat)(x0_1:List ae)(w:World)(r0_0:ab w w.heap.size a0_0 n0_0 c0_0 (fun(z:ByteArray)=>[.string z]) 1 x0_0)(_o0_0:∀z∈x0_0,(fun(z:ByteArray)=>z.size≤maxLen) z)(_s0_0:c0_0*16≤140737488351232)(r0_1:ab w w.heap.size a0_1 n0_1 c0_1 ae.cells 2 x0_1)(_o0_1:∀z∈x0_1,ae.ok z)(_s0_1:c0_1*24≤140737488351232):Calls Tryz.prog 3 #[.agg #[.slice a0_0 n0_0 c0_0,.slice a0_1 n0_1 c0_1]] w fun e w'=>e= .returned (.bool true)∧Below w.heap.size w w':=by
 obtain⟨wa,h3⟩:∃wa,wa=w.alloc (.cells #[.slice a0_0 n0_0 c0_0,.slice a0_1 n0_1 c0_1] 25):=⟨_,rfl⟩;have h9:Below w.heap.size w wa:=by rw [h3];exact br.alloc ler _
 have h8:wa.heap[w.heap.size]?=some (.cells #[.slice a0_0 n0_0 c0_0,.slice a0_1 n0_1 c0_1] 25 (0,0)):=by rw [h3];exact A_ w _
 have h1:Hid (∀W,Below wa.heap.size wa W→Below w.heap.size w W∧W.cell? ⟨w.heap.size,0,none⟩=some (.slice a0_0 n0_0 c0_0)∧W.cell? ⟨w.heap.size,1,none⟩=some (.slice a0_1 n0_1 c0_1)∧ab W W.heap.size a0_0 n0_0 c0_0 (fun z=>[.string z]) 1 x0_0∧ab W W.heap.size a0_1 n0_1 c0_1 ae.cells 2 x0_1):=h_ fun W hW=>by have hb:Below w.heap.size w W:=h9.trans (hW.mono h9.size);have e:=ah h8 (ag h8) hW;exact⟨hb,aj e 0,aj e 1,(r0_0.below hb).more hb.size,(r0_1.below hb).more hb.size⟩
 obtain⟨-,v0,v1,ra,ha⟩:=h1.o wa br;have h4:=h_ (k0y a0_0 n0_0 c0_0 x0_0 a0_1 n0_1 c0_1 x0_1 wa ra ha);have h6:Hid (∀W,Below wa.heap.size wa W→Calls Tryz.prog 5 #[.agg #[.slice a0_0 n0_0 c0_0,.slice a0_1 n0_1 c0_1]] W (ma x0_0 x0_1 W)):=h_ fun W hW=>f0y _ _ _ _ _ _ _ _ W (h1.o W hW).2.2.2.1 (h1.o W hW).2.2.2.2
 have he:=h_ h3;clear h9 h8 h3 ra ha r0_0 r0_1;by_cases hE:mtE x0_0 x0_1=0
 ·have hq:=h_ (k0t h4.o hE);have hj:=h_ (fun W hW=>g0c (h6.o W hW) hE);obtain⟨hd,rfl⟩:=Sr hE;have hp:=h_ (fun m s l hm hw hv=>k0x hE (m:=m) (s:=s) (l:=l) hm hw hv);clear hE hd h4 h6;have hy:∀(a b:Value) (W:World),(Instr.field 25 (.agg #[a,b]) 1).run Tryz.prog W= .ok b W:=fun a b W=>by kernel_rfl
  go_enter Tryz.func3,Tryz.ntmps3
  go_wp2_with(first
   |(go_at_call 4;rw [←he.o];refine hq.o.mono ?_;rintro e w1 ⟨b,m,v,fr,os,rfl,hm,hf,h0⟩;have B1:=h_ h0;have M1:=h_ hm;have F1:=h_ hf;obtain⟨-,t0,t1,-,-⟩:=h1.o w1 h0;clear h0 hm hf)
   |(go_at_call 5;refine(hj.o _ B1.o).mono ?_;rintro e w2 ⟨m',s,l,LA,ln,lc,hm,hw,hv,rfl,hh,h2⟩;have H2:=h_ (k0u (X:=fun m=>syX x0_0 [] m.1 m.2 (dr x0_0 [] (prS (nwU x0_0 []))) (prN (nwU x0_0 []))) M1.o hm hp.o hw hv F1.o h2);have R2:=h_ hh;have B2:=h_ (B1.o.trans (h2.mono B1.o.size));clear hm hw hv hh h2)
   |(go_at_call 7;refine H2.o.1.mono ?_;rintro e w3 ⟨hr,hn,hs,rfl,hc,h5⟩;have E3:=h_ (r0y hr hn hs l LA ln lc w3.heap.size w2.heap.size w3 hc (R2.o.below h5));have B3:=h_ (B2.o.trans (h5.mono B2.o.size));have S3:=h_ h5;clear hc h5)
   |(go_at_call 6;refine E3.o.mono ?_;rintro e w4 ⟨rfl,h7⟩;have B4:=h_ (B3.o.trans (h7.mono B3.o.size));have S4:=h_ (S3.o.trans (h7.mono S3.o.size));clear h7)
   |(go_at_call 8;refine(H2.o.2 _ S4.o).mono ?_;rintro e w5 ⟨DA,dn,dc,hx,hu,rfl,hg⟩;have B5:=h_ (B4.o.trans (hg.mono B4.o.size));clear hg))
  have HZ:=(h1.o _ B5.o).1
  first|exact⟨rfl,HZ⟩|(go_ret;exact⟨rfl,HZ⟩)
 ·have ht:=h_ (k0v h4.o hE);have hk:=h_ (fun W hW=>g0d (h6.o W hW) hE);have g1:(mtE x0_0 x0_1 !=0)=true:=bN hE;generalize mtE x0_0 x0_1=E at*;clear hE h4 h6;go_enter Tryz.func3,Tryz.ntmps3
  go_wp2_with(first
   |(go_at_call 4;rw [←he.o];refine ht.o.mono ?_;rintro e w1 ⟨rfl,h0⟩;have B1:=h_ h0;obtain⟨-,t0,t1,-,-⟩:=h1.o w1 h0;clear h0)
   |(go_at_call 5;refine(hk.o _ B1.o).mono ?_;rintro e w2 ⟨rfl,h2⟩;have B2:=h_ (h1.o _ (B1.o.trans (h2.mono B1.o.size))).1;clear h2))
  first|exact⟨rfl,B2.o⟩|(go_ret;exact⟨rfl,B2.o⟩)
end Go.Proofs.YtcldpfhpkbeaiadGreat.lFsMounts
