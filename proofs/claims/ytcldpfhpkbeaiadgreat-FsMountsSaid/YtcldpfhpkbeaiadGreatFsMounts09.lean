/- A part of the proof of FsMounts. No condition of ours. -/
import Derived.Test.YtcldpfhpkbeaiadGreatFsMounts08
set_option maxRecDepth 20000
set_option maxHeartbeats 2000000
namespace Go.Proofs.YtcldpfhpkbeaiadGreat
open Go.RowKit
abbrev dm:Array Value:= #[.int .i64 0,.int .i64 0,.int .i64 0,.string ⟨#[]⟩]
theorem kq:(Tryz.prog.info? 85).map (·.size)=some 4:=by kernel_rfl
def s5(E:Int)(b:bz)(w:World)(e:Ending)(w':World):Prop:=e= .returned (.tuple #[.agg #[.int .i64 b.Kind,.int .i64 b.Ino,.int .i64 b.Nth,.string b.Text],.int .i64 E])∧Below w.heap.size w w'
theorem uf{E k:Int}{b:bz}{w w':World}(h:E=k)(hb:b=pu)(hw:Below w.heap.size w w'):s5 E b w (.returned (.tuple #[.agg dm,.int .i64 k])) w':=⟨by rw [h,hb];rfl,hw⟩
theorem Yb{w:World}{B n c:Nat}{A:Option Addr}{l:List bz}(r:ab w B A n c bz.cells 4 l){i:Nat}{p:bz}(h:l[i]?=some p):∃b o,A=some ⟨b,o,none⟩∧b <B∧w.cell? ⟨b,o+i*4,none⟩=some (.int .i64 p.Kind)∧w.cell? ⟨b,o+i*4+1,none⟩=some (.int .i64 p.Ino)∧w.cell? ⟨b,o+i*4+2,none⟩=some (.int .i64 p.Nth)∧w.cell? ⟨b,o+i*4+3,none⟩=some (.string p.Text):=by obtain⟨b,o,e,hb,hc⟩:=r.at_ i p h;exact⟨b,o,e,hb,hc 0 _ rfl,hc 1 _ rfl,hc 2 _ rfl,hc 3 _ rfl⟩
theorem nj(w:World)(o1 o2 o3:Obj):(((w.alloc o1).alloc o2).alloc o3).heap[w.heap.size]?=some o1∧(((w.alloc o1).alloc o2).alloc o3).heap[w.heap.size+1]?=some o2∧(((w.alloc o1).alloc o2).alloc o3).heap[w.heap.size+2]?=some o3:=by
 refine⟨(heap_alloc_old _ _ (by simp;omega)).trans ((heap_alloc_old _ _ (by simp)).trans (A_ w _)),?_,?_⟩
 ·have:=A_ (w.alloc o1) o2;rw [show(w.alloc o1).heap.size=w.heap.size+1 by simp]at this;exact(heap_alloc_old _ _ (by simp)).trans this
 ·have:=A_ ((w.alloc o1).alloc o2) o3;rw [show((w.alloc o1).alloc o2).heap.size=w.heap.size+2 by simp]at this;exact this
theorem N4(A:Option Addr)(n c:Nat)(cs:List ByteArray)(A':Option Addr)(n' c':Nat)(ws:List ae)(pc pn:Int)(w:World)(r:ab w w.heap.size A n c (fun z=>[.string z]) 1 cs)(r':ab w w.heap.size A' n' c' ae.cells 2 ws)(hws:ws.length≤400):Calls Tryz.prog 75 #[.agg #[.slice A n c,.slice A' n' c'],.agg #[.int .i64 pc,.int .i64 pn]] w (s5 (ubE cs ws pc pn) (ubB cs ws pc pn) w):=by
 have hr:=r.len;subst hr;have hn:=r'.len;subst hn;obtain⟨wa,h5⟩:∃wa,wa=((w.alloc (.cells #[.slice A cs.length c,.slice A' ws.length c'] 25)).alloc (.cells #[.int .i64 pc,.int .i64 pn] 89)).alloc (.cells dm 85):=⟨_,rfl⟩;have hj:wa.heap.size=w.heap.size+3:=by rw [h5];simp
 have he:Below w.heap.size w wa:=by rw [h5];exact((br.alloc ler _).alloc (by simp) _).alloc (by simp;omega) _
 obtain⟨hc,h8,ha⟩:=nj w (.cells #[.slice A cs.length c,.slice A' ws.length c'] 25) (.cells #[.int .i64 pc,.int .i64 pn] 89) (.cells dm 85);rw [←h5]at hc h8 ha;have hg:w.heap.size≤wa.heap.size:=by omega
 have RA:=h_ ((r.below he).more hg);have ht:=h_ ((r'.below he).more hg);have hf:Hid ((dm:Array Value).all (·.oneCell')=true):=by simp [Hid,Value.oneCell']
 have HC:Hid (∀W,Below wa.heap.size wa W→W.cell? ⟨w.heap.size,0,none⟩=some (.slice A cs.length c)∧W.cell? ⟨w.heap.size,1,none⟩=some (.slice A' ws.length c')∧W.cell? ⟨w.heap.size+1,0,none⟩=some (.int .i64 pc)∧W.cell? ⟨w.heap.size+1,1,none⟩=some (.int .i64 pn)∧Hid (W.heap[w.heap.size+1+1]?=some (.cells dm 85 (0,0)))):=fun W h=>by have q0:=ah hc (ag hc) h;have q1:=ah h8 (ag h8) h;exact⟨aj q0 0,aj q0 1,aj q1 0,aj q1 1,ah ha (ag ha) h⟩
 have hd:=h_ h5;have h4:=h_ he;have hu:=h_ hj;clear r r' h5 he ha h8 hc hj hg;by_cases ho:pc <2∨(cs.length:Int)≤pc∨pn <0
 ·have F:=h_ (ud (ws:=ws) ho);have F2:=h_ (Bg F.o (by decide));obtain⟨u0,u1,u2,u3,u4⟩:=HC.o wa br;rcases(show pc <2∨(2≤pc∧(cs.length:Int)≤pc)∨(2≤pc∧pc < (cs.length:Int)∧pn <0) by omega)with h|⟨h,h'⟩|⟨h,h',h2⟩<;>clear ho
  all_goals
   go_enter Tryz.func75,Tryz.ntmps75;go_upto_region 1 with fail;rw [←hd.o];go_wp2_with(refine wpList_store_rowTo rfl _ _ _ rfl rfl (w.heap.size+1+1) dm rfl rfl 85 dm u4.o kq rfl hf.o ?_);refine bodyPost_ret (cv rfl _ _ (w.heap.size+1+1) _ dm (0,0) _ rfl (bh u4.o) Tryz.underlying85 rfl kq) rfl ?_;exact uf F.o F2.o (below_setRow h4.o (by omega) _)
 ·obtain⟨k,rfl⟩:∃k:Nat,pc=k:=⟨pc.toNat,by omega⟩;obtain⟨j,rfl⟩:∃j:Nat,pn=j:=⟨pn.toNat,by omega⟩;have hk:k <cs.length:=by omega
  have hm:2≤k:=by omega
  have h9:Hid (∀W,Below wa.heap.size wa W→Calls Tryz.prog 25 #[.agg #[.slice A cs.length c,.slice A' ws.length c'],.int .i64 k] W (qu (ar cs ws k) W)):=fun W h=>Ov A _ c cs A' _ c' ws k W ((RA.o.below h).more h.size) ((ht.o.below h).more h.size) hk hws
  unfold qu at h9
  have hp:(scO (ar cs ws k)=false∧ubE cs ws k j=18)∨(scO (ar cs ws k)=true∧(scL (ar cs ws k)).length≤j∧ubE cs ws k j=12)∨(scO (ar cs ws k)=true∧j < (scL (ar cs ws k)).length∧ubE cs ws k j=0∧ubB cs ws k j=(scL (ar cs ws k)).getD j pu):=by
   by_cases h1:scO (ar cs ws k)=true
   ·by_cases h2:(scL (ar cs ws k)).length≤j
    ·exact .inr (.inl ⟨h1,h2,Nh ho h1 (by omega)⟩)
    ·have:=Ng ho h1 (by omega);rw [Int.toNat_natCast]at this;exact .inr (.inr ⟨h1,by omega,this⟩)
   ·have hh:scO (ar cs ws k)=false:=by cases h:scO (ar cs ws k);rfl;exact absurd h h1
    exact .inl ⟨hh,Nj ho hh⟩
  have h6:=h_ (fun(e:Int) h h0=>Bg (cs:=cs) (ws:=ws) (pc:=(k:Int)) (pn:=(j:Int)) (e:=e) h h0);generalize scO (ar cs ws k)=so at*;generalize scN (ar cs ws k)=sn at*;generalize scB (ar cs ws k)=sb at*;generalize scL (ar cs ws k)=l at*;generalize ubE cs ws k j=UE at*;generalize ubB cs ws k j=UB at*;have i1:(k:Int) < (cs.length:Int):=by omega
  have i2:¬(k:Int) <2:=by omega
  have i3:(2:Int)≤(k:Int):=by omega
  obtain⟨u0,u1,u2,u3,u4⟩:=HC.o wa br;clear ho hk hm;rcases hp with⟨rfl,e1⟩|⟨rfl,h2,e1⟩|⟨rfl,h2,e1,e2⟩
  ·have F:=h_ e1;have F2:=h_ (h6.o _ e1 (by decide));clear e1 h6;go_enter Tryz.func75,Tryz.ntmps75;go_upto_region 1 with fail;rw [←hd.o]
   go_wp2_with(first
    |(go_at_call 25;refine(h9.o _ br).mono ?_;rintro e w1 ⟨D,q,d,rfl,r1,h3⟩;obtain⟨v0,v1,v2,v3,v4⟩:=HC.o w1 h3;have h7:=h_ h3;clear h3)
    |(refine wpList_store_rowTo rfl _ _ _ rfl rfl (w.heap.size+1+1) dm rfl rfl 85 dm v4.o kq rfl hf.o ?_))
   refine bodyPost_ret (cv rfl _ _ (w.heap.size+1+1) _ dm (0,0) _ rfl (bh v4.o) Tryz.underlying85 rfl kq) rfl ?_;exact uf F.o F2.o (below_setRow (h4.o.trans (h7.o.mono h4.o.size)) (by omega) _)
  ·have F:=h_ e1;have F2:=h_ (h6.o _ e1 (by decide));have i4:(l.length:Int)≤(j:Int):=by omega
   clear e1 h6;go_enter Tryz.func75,Tryz.ntmps75;go_upto_region 1 with fail;rw [←hd.o]
   go_wp2_with(first
    |(go_at_call 25;refine(h9.o _ br).mono ?_;rintro e w1 ⟨D,q,d,rfl,r1,h3⟩;obtain⟨v0,v1,v2,v3,v4⟩:=HC.o w1 h3;have h7:=h_ h3;have hq:=r1.len;subst hq;clear h3)
    |(refine wpList_store_rowTo rfl _ _ _ rfl rfl (w.heap.size+1+1) dm rfl rfl 85 dm v4.o kq rfl hf.o ?_))
   refine bodyPost_ret (cv rfl _ _ (w.heap.size+1+1) _ dm (0,0) _ rfl (bh v4.o) Tryz.underlying85 rfl kq) rfl ?_;exact uf F.o F2.o (below_setRow (h4.o.trans (h7.o.mono h4.o.size)) (by omega) _)
  ·obtain⟨x,hx⟩:∃x,l[j]?=some x:=⟨_,gE h2⟩;have e3:l.getD j pu=x:=by rw [gD,hx];rfl
   have F:=h_ e1;have F2:=h_ (e2.trans e3);have HX:=h_ hx;have i4:(j:Int) < (l.length:Int):=by omega
   have hs:Hid ((#[.int .i64 x.Kind,.int .i64 x.Ino,.int .i64 x.Nth,.string x.Text]:Array Value).all (·.oneCell')=true):=by simp [Hid,Value.oneCell']
   clear e1 e2 e3 h6 hx h2;go_enter Tryz.func75,Tryz.ntmps75;go_upto_region 1 with fail;rw [←hd.o]
   go_wp2_with(first
    |(go_at_call 25;refine(h9.o _ br).mono ?_;rintro e w1 ⟨D,q,d,rfl,r1,h3⟩;obtain⟨v0,v1,v2,v3,v4⟩:=HC.o w1 h3;have h7:=h_ h3;have hq:=r1.len;subst hq;obtain⟨b,o,rfl,hv,k0,k1,k2,k3⟩:=Yb r1 HX.o;clear h3)
    |(refine wpList_store_rowTo rfl _ _ _ rfl rfl (w.heap.size+1+1) #[.int .i64 x.Kind,.int .i64 x.Ino,.int .i64 x.Nth,.string x.Text] rfl rfl 85 dm v4.o kq rfl hs.o ?_))
   refine bodyPost_ret (cv rfl _ _ (w.heap.size+1+1) _ #[.int .i64 x.Kind,.int .i64 x.Ino,.int .i64 x.Nth,.string x.Text] (0,0) _ rfl (bh v4.o) Tryz.underlying85 rfl kq) rfl ?_;exact⟨by rw [F.o,F2.o]<;>rfl,below_setRow (h4.o.trans (h7.o.mono h4.o.size)) (by omega) _⟩
theorem La(A:Option Addr)(n c:Nat)(cs:List ByteArray)(A':Option Addr)(n' c':Nat)(ws:List ae)(pc pn:Int)(w:World)(r:ab w w.heap.size A n c (fun z=>[.string z]) 1 cs)(r':ab w w.heap.size A' n' c' ae.cells 2 ws)(hws:ws.length≤400):Calls Tryz.prog 69 #[.agg #[.slice A n c,.slice A' n' c'],.agg #[.int .i64 pc,.int .i64 pn]] w (s5 (ubE cs ws pc pn) (ubB cs ws pc pn) w):=by
 have hr:=r.len;subst hr;have hn:=r'.len;subst hn;obtain⟨wa,h5⟩:∃wa,wa=((w.alloc (.cells #[.slice A cs.length c,.slice A' ws.length c'] 25)).alloc (.cells #[.int .i64 pc,.int .i64 pn] 89)).alloc (.cells dm 85):=⟨_,rfl⟩;have hm:wa.heap.size=w.heap.size+3:=by rw [h5];simp
 have he:Below w.heap.size w wa:=by rw [h5];exact((br.alloc ler _).alloc (by simp) _).alloc (by simp;omega) _
 obtain⟨hc,h8,ha⟩:=nj w (.cells #[.slice A cs.length c,.slice A' ws.length c'] 25) (.cells #[.int .i64 pc,.int .i64 pn] 89) (.cells dm 85);rw [←h5]at hc h8 ha;have hg:w.heap.size≤wa.heap.size:=by omega
 have RA:=h_ ((r.below he).more hg);have ht:=h_ ((r'.below he).more hg);have hf:Hid ((dm:Array Value).all (·.oneCell')=true):=by simp [Hid,Value.oneCell']
 have HC:Hid (∀W,Below wa.heap.size wa W→W.cell? ⟨w.heap.size,0,none⟩=some (.slice A cs.length c)∧W.cell? ⟨w.heap.size,1,none⟩=some (.slice A' ws.length c')∧W.cell? ⟨w.heap.size+1,0,none⟩=some (.int .i64 pc)∧W.cell? ⟨w.heap.size+1,1,none⟩=some (.int .i64 pn)∧Hid (W.heap[w.heap.size+1+1]?=some (.cells dm 85 (0,0)))):=fun W h=>by have q0:=ah hc (ag hc) h;have q1:=ah h8 (ag h8) h;exact⟨aj q0 0,aj q0 1,aj q1 0,aj q1 1,ah ha (ag ha) h⟩
 have hd:=h_ h5;have h4:=h_ he;have hu:=h_ hm;clear r r' h5 he ha h8 hc hm hg;by_cases ho:pc <2∨(cs.length:Int)≤pc∨pn <0
 ·have F:=h_ (ud (ws:=ws) ho);have F2:=h_ (Bg F.o (by decide));obtain⟨u0,u1,u2,u3,u4⟩:=HC.o wa br;rcases(show pc <2∨(2≤pc∧(cs.length:Int)≤pc)∨(2≤pc∧pc < (cs.length:Int)∧pn <0) by omega)with h|⟨h,h'⟩|⟨h,h',h2⟩<;>clear ho
  all_goals
   go_enter Tryz.func69,Tryz.ntmps69;go_upto_region 1 with fail;rw [←hd.o];go_wp2_with(refine wpList_store_rowTo rfl _ _ _ rfl rfl (w.heap.size+1+1) dm rfl rfl 85 dm u4.o kq rfl hf.o ?_);refine bodyPost_ret (cv rfl _ _ (w.heap.size+1+1) _ dm (0,0) _ rfl (bh u4.o) Tryz.underlying85 rfl kq) rfl ?_;exact uf F.o F2.o (below_setRow h4.o (by omega) _)
 ·obtain⟨k,rfl⟩:∃k:Nat,pc=k:=⟨pc.toNat,by omega⟩;obtain⟨j,rfl⟩:∃j:Nat,pn=j:=⟨pn.toNat,by omega⟩;have hk:k <cs.length:=by omega
  have hh:2≤k:=by omega
  have h9:Hid (∀W,Below wa.heap.size wa W→Calls Tryz.prog 66 #[.agg #[.slice A cs.length c,.slice A' ws.length c'],.int .i64 k] W (qu (ar cs ws k) W)):=fun W h=>g0g A _ c cs A' _ c' ws k W ((RA.o.below h).more h.size) ((ht.o.below h).more h.size) hk hws hh
  unfold qu at h9
  have hp:(scO (ar cs ws k)=false∧ubE cs ws k j=18)∨(scO (ar cs ws k)=true∧(scL (ar cs ws k)).length≤j∧ubE cs ws k j=12)∨(scO (ar cs ws k)=true∧j < (scL (ar cs ws k)).length∧ubE cs ws k j=0∧ubB cs ws k j=(scL (ar cs ws k)).getD j pu):=by
   by_cases h1:scO (ar cs ws k)=true
   ·by_cases h2:(scL (ar cs ws k)).length≤j
    ·exact .inr (.inl ⟨h1,h2,Nh ho h1 (by omega)⟩)
    ·have:=Ng ho h1 (by omega);rw [Int.toNat_natCast]at this;exact .inr (.inr ⟨h1,by omega,this⟩)
   ·have hj:scO (ar cs ws k)=false:=by cases h:scO (ar cs ws k);rfl;exact absurd h h1
    exact .inl ⟨hj,Nj ho hj⟩
  have h6:=h_ (fun(e:Int) h h0=>Bg (cs:=cs) (ws:=ws) (pc:=(k:Int)) (pn:=(j:Int)) (e:=e) h h0);generalize scO (ar cs ws k)=so at*;generalize scN (ar cs ws k)=sn at*;generalize scB (ar cs ws k)=sb at*;generalize scL (ar cs ws k)=l at*;generalize ubE cs ws k j=UE at*;generalize ubB cs ws k j=UB at*;have i1:(k:Int) < (cs.length:Int):=by omega
  have i2:¬(k:Int) <2:=by omega
  have i3:(2:Int)≤(k:Int):=by omega
  obtain⟨u0,u1,u2,u3,u4⟩:=HC.o wa br;clear ho hk hh;rcases hp with⟨rfl,e1⟩|⟨rfl,h2,e1⟩|⟨rfl,h2,e1,e2⟩
  ·have F:=h_ e1;have F2:=h_ (h6.o _ e1 (by decide));clear e1 h6;go_enter Tryz.func69,Tryz.ntmps69;go_upto_region 1 with fail;rw [←hd.o]
   go_wp2_with(first
    |(go_at_call 66;refine(h9.o _ br).mono ?_;rintro e w1 ⟨D,q,d,rfl,r1,h3⟩;obtain⟨v0,v1,v2,v3,v4⟩:=HC.o w1 h3;have h7:=h_ h3;clear h3)
    |(refine wpList_store_rowTo rfl _ _ _ rfl rfl (w.heap.size+1+1) dm rfl rfl 85 dm v4.o kq rfl hf.o ?_))
   refine bodyPost_ret (cv rfl _ _ (w.heap.size+1+1) _ dm (0,0) _ rfl (bh v4.o) Tryz.underlying85 rfl kq) rfl ?_;exact uf F.o F2.o (below_setRow (h4.o.trans (h7.o.mono h4.o.size)) (by omega) _)
  ·have F:=h_ e1;have F2:=h_ (h6.o _ e1 (by decide));have i4:(l.length:Int)≤(j:Int):=by omega
   clear e1 h6;go_enter Tryz.func69,Tryz.ntmps69;go_upto_region 1 with fail;rw [←hd.o]
   go_wp2_with(first
    |(go_at_call 66;refine(h9.o _ br).mono ?_;rintro e w1 ⟨D,q,d,rfl,r1,h3⟩;obtain⟨v0,v1,v2,v3,v4⟩:=HC.o w1 h3;have h7:=h_ h3;have hq:=r1.len;subst hq;clear h3)
    |(refine wpList_store_rowTo rfl _ _ _ rfl rfl (w.heap.size+1+1) dm rfl rfl 85 dm v4.o kq rfl hf.o ?_))
   refine bodyPost_ret (cv rfl _ _ (w.heap.size+1+1) _ dm (0,0) _ rfl (bh v4.o) Tryz.underlying85 rfl kq) rfl ?_;exact uf F.o F2.o (below_setRow (h4.o.trans (h7.o.mono h4.o.size)) (by omega) _)
  ·obtain⟨x,hx⟩:∃x,l[j]?=some x:=⟨_,gE h2⟩;have e3:l.getD j pu=x:=by rw [gD,hx];rfl
   have F:=h_ e1;have F2:=h_ (e2.trans e3);have HX:=h_ hx;have i4:(j:Int) < (l.length:Int):=by omega
   have hs:Hid ((#[.int .i64 x.Kind,.int .i64 x.Ino,.int .i64 x.Nth,.string x.Text]:Array Value).all (·.oneCell')=true):=by simp [Hid,Value.oneCell']
   clear e1 e2 e3 h6 hx h2;go_enter Tryz.func69,Tryz.ntmps69;go_upto_region 1 with fail;rw [←hd.o]
   go_wp2_with(first
    |(go_at_call 66;refine(h9.o _ br).mono ?_;rintro e w1 ⟨D,q,d,rfl,r1,h3⟩;obtain⟨v0,v1,v2,v3,v4⟩:=HC.o w1 h3;have h7:=h_ h3;have hq:=r1.len;subst hq;obtain⟨b,o,rfl,hv,k0,k1,k2,k3⟩:=Yb r1 HX.o;clear h3)
    |(refine wpList_store_rowTo rfl _ _ _ rfl rfl (w.heap.size+1+1) #[.int .i64 x.Kind,.int .i64 x.Ino,.int .i64 x.Nth,.string x.Text] rfl rfl 85 dm v4.o kq rfl hs.o ?_))
   refine bodyPost_ret (cv rfl _ _ (w.heap.size+1+1) _ #[.int .i64 x.Kind,.int .i64 x.Ino,.int .i64 x.Nth,.string x.Text] (0,0) _ rfl (bh v4.o) Tryz.underlying85 rfl kq) rfl ?_;exact⟨by rw [F.o,F2.o]<;>rfl,below_setRow (h4.o.trans (h7.o.mono h4.o.size)) (by omega) _⟩
theorem o0y(k g s:Int)(A:Option Addr)(n c:Nat)(xs:List aa)(w:World)(hs0: -9223372036854775808≤s)(hs1:s≤9223372036854775807)(r:ab w w.heap.size A n c aa.cells 2 xs):Calls Tryz.prog 115 #[.agg #[.int .i64 k,.int .i64 g,.int .i64 s,.slice A n c]] w fun e w'=>e= .returned (.int .i64 (ez k g s xs))∧Below w.heap.size w w':=by
 have hw:=r.len;subst hw;have hy:(xs.length:Int)≤9223372036854775807:=by have h1:=r.le;have h2:=r.top;unfold maxLen at h2;omega
 have h0:Below w.heap.size w (w.alloc (.cells #[.int .i64 k,.int .i64 g,.int .i64 s,.slice A xs.length c] 67)):=br.alloc ler _;by_cases hk:k≠1∧k≠2
 ·have F:=h_ (np (k:=k) (g:=g) (s:=s) (xs:=xs) (by omega));have k1:(k !=1)=true:=bN hk.1;have k2:(k !=2)=true:=bN hk.2;go_enter Tryz.func115,Tryz.ntmps115;go_wp2;go_ret;exact⟨ax F.o.symm,h0⟩
 obtain rfl|rfl:k=1∨k=2:=by omega
 ·by_cases h1:g <0
  ·have F:=h_ (np (k:=1) (g:=g) (s:=s) (xs:=xs) (by omega));go_enter Tryz.func115,Tryz.ntmps115;go_wp2;go_ret;exact⟨ax F.o.symm,h0⟩
  ·by_cases h2:2147483647 <g
   ·have F:=h_ (np (k:=1) (g:=g) (s:=s) (xs:=xs) (by omega));go_enter Tryz.func115,Tryz.ntmps115;go_wp2;go_ret;exact⟨ax F.o.symm,h0⟩
   ·have hA:¬(((1:Int)≠1∧(1:Int)≠2)∨g <0∨2147483647 <g):=by omega
    have hr:decide (g <0)=false:=by simpa using h1
    have hx:decide (2147483647 <g)=false:=by simpa using h2
    by_cases h3:s <0
    ·have F:=h_ (rp (xs:=xs) (s:=s) hA (by omega));go_enter Tryz.func115,Tryz.ntmps115;go_wp2;go_ret;exact⟨ax F.o.symm,h0⟩
    ·by_cases h4:4096 <s
     ·have F:=h_ (rp (xs:=xs) (s:=s) hA (by omega));go_enter Tryz.func115,Tryz.ntmps115;go_wp2;go_ret;exact⟨ax F.o.symm,h0⟩
     ·have hB:¬(s <0∨4096 <s):=by omega
      by_cases h5:(xs.length:Int)=(s+511)/512
      ·obtain⟨J,hJ,ha,h9⟩:=Cz xs;have HG:=h_ ha;have HB:=h_ h9;have E0:Hid (J=xs.length→ez 1 g s xs=0):=fun e=>D6 hA hB h5 (by rw [←e];exact ha)
       have E4:Hid (J <xs.length→ez 1 g s xs=4):=fun e=>rq hA hB fun h=>by obtain⟨p,e1,e2⟩:=h9 e;obtain⟨p',h6,hd⟩:=h.2 J e;rw [e1]at h6;injection h6 with h6;subst h6;rw [e2]at hd;cases hd
       clear ha h9 hA hB;have hq:(s+511).tdiv 512=(xs.length:Int):=by rw [Int.tdiv_eq_ediv_of_nonneg (by omega)];exact h5.symm
       go_enter Tryz.func115,Tryz.ntmps115;go_wp2;obtain⟨hv,hn,hp,hu⟩:=xp w (.int .i64 1) (.int .i64 g) (.int .i64 s) (.slice A xs.length c) 67;have hf:w.heap.size < (w.alloc (.cells #[.int .i64 1,.int .i64 g,.int .i64 s,.slice A xs.length c] 67)).heap.size:=by simp
       generalize w.alloc (.cells #[.int .i64 1,.int .i64 g,.int .i64 s,.slice A xs.length c] 67)=wa at*;go_loopw [43] (fun v18 wr=>∃i:Nat,i≤J∧v18= .int .i64 i∧Below wa.heap.size wa wr) (fun v18 _=>xs.length- (intOf v18).toNat)
       case atStart=>exact⟨0,zl,rfl,br⟩
       case round=>
        obtain⟨i,hi,rfl,hb⟩:=hrel;have h7:Below w.heap.size w wr:=h0.trans (hb.mono (Nat.le_of_lt hf));have hh:=hb.size;by_cases hlt:i <J
        ·obtain⟨p,e1,g1⟩:=HG.o i hlt;obtain⟨b,o,rfl,hj,hc⟩:=(r.below h7).at_ i _ e1;obtain⟨pc,pn⟩:=p;have h8:=hc 0 _ rfl;have he:=hc 1 _ rfl;simp only [Nat.add_zero]at h8;clear hc e1;have hs:dk pc pn=true:=g1;clear g1;have ht:i <xs.length:=by omega
         go_wp2_with(go_at_call 53;refine(sm _ _ _).mono ?_;rintro e w' ⟨rfl,rfl⟩);go_roundw
         case rel=>exact⟨i+1,by omega,by go_num,(hb.alloc hh _).alloc (by simp;omega) _⟩
         case measure=>simp [intOf];omega
        ·obtain rfl:i=J:=by omega
         by_cases hend:i <xs.length
         ·obtain⟨p,e1,hg⟩:=HB.o hend;have F:=h_ (E4.o hend);obtain⟨b,o,rfl,hj,hc⟩:=(r.below h7).at_ i _ e1;obtain⟨pc,pn⟩:=p;have h8:=hc 0 _ rfl;have he:=hc 1 _ rfl;simp only [Nat.add_zero]at h8;clear hc e1;simp only at hg;go_wp2_with(go_at_call 53;refine(sm _ _ _).mono ?_;rintro e w' ⟨rfl,rfl⟩);go_ret;exact⟨ax F.o.symm,(h7.alloc (by omega) _).alloc (by simp;omega) _⟩
         ·have F:=h_ (E0.o (by omega));go_wp2;go_ret;exact⟨ax F.o.symm,h7⟩
      ·have F:=h_ (rq (xs:=xs) hA hB fun h=>h5 h.1);have hm:((xs.length:Int)!=(s+511)/512)=true:=bN h5;go_enter Tryz.func115,Tryz.ntmps115;go_wp2;go_ret;exact⟨ax F.o.symm,h0⟩
 ·by_cases h1:g <0
  ·have F:=h_ (np (k:=2) (g:=g) (s:=s) (xs:=xs) (by omega));go_enter Tryz.func115,Tryz.ntmps115;go_wp2;go_ret;exact⟨ax F.o.symm,h0⟩
  ·by_cases h2:2147483647 <g
   ·have F:=h_ (np (k:=2) (g:=g) (s:=s) (xs:=xs) (by omega));go_enter Tryz.func115,Tryz.ntmps115;go_wp2;go_ret;exact⟨ax F.o.symm,h0⟩
   ·have hA:¬(((2:Int)≠1∧(2:Int)≠2)∨g <0∨2147483647 <g):=by omega
    have hr:decide (g <0)=false:=by simpa using h1
    have hx:decide (2147483647 <g)=false:=by simpa using h2
    by_cases h3:s <0
    ·have F:=h_ (rp (xs:=xs) (s:=s) hA (by omega));go_enter Tryz.func115,Tryz.ntmps115;go_wp2;go_ret;exact⟨ax F.o.symm,h0⟩
    ·by_cases h4:4096 <s
     ·have F:=h_ (rp (xs:=xs) (s:=s) hA (by omega));go_enter Tryz.func115,Tryz.ntmps115;go_wp2;go_ret;exact⟨ax F.o.symm,h0⟩
     ·have hB:¬(s <0∨4096 <s):=by omega
      by_cases h5:(xs.length:Int)=(s+511)/512
      ·obtain⟨J,hJ,ha,h9⟩:=Cz xs;have HG:=h_ ha;have HB:=h_ h9;have E0:Hid (J=xs.length→ez 2 g s xs=0):=fun e=>D6 hA hB h5 (by rw [←e];exact ha)
       have E4:Hid (J <xs.length→ez 2 g s xs=4):=fun e=>rq hA hB fun h=>by obtain⟨p,e1,e2⟩:=h9 e;obtain⟨p',h6,hd⟩:=h.2 J e;rw [e1]at h6;injection h6 with h6;subst h6;rw [e2]at hd;cases hd
       clear ha h9 hA hB;have hq:(s+511).tdiv 512=(xs.length:Int):=by rw [Int.tdiv_eq_ediv_of_nonneg (by omega)];exact h5.symm
       go_enter Tryz.func115,Tryz.ntmps115;go_wp2;obtain⟨hv,hn,hp,hu⟩:=xp w (.int .i64 2) (.int .i64 g) (.int .i64 s) (.slice A xs.length c) 67;have hf:w.heap.size < (w.alloc (.cells #[.int .i64 2,.int .i64 g,.int .i64 s,.slice A xs.length c] 67)).heap.size:=by simp
       generalize w.alloc (.cells #[.int .i64 2,.int .i64 g,.int .i64 s,.slice A xs.length c] 67)=wa at*;go_loopw [43] (fun v18 wr=>∃i:Nat,i≤J∧v18= .int .i64 i∧Below wa.heap.size wa wr) (fun v18 _=>xs.length- (intOf v18).toNat)
       case atStart=>exact⟨0,zl,rfl,br⟩
       case round=>
        obtain⟨i,hi,rfl,hb⟩:=hrel;have h7:Below w.heap.size w wr:=h0.trans (hb.mono (Nat.le_of_lt hf));have hh:=hb.size;by_cases hlt:i <J
        ·obtain⟨p,e1,g1⟩:=HG.o i hlt;obtain⟨b,o,rfl,hj,hc⟩:=(r.below h7).at_ i _ e1;obtain⟨pc,pn⟩:=p;have h8:=hc 0 _ rfl;have he:=hc 1 _ rfl;simp only [Nat.add_zero]at h8;clear hc e1;have hs:dk pc pn=true:=g1;clear g1;have ht:i <xs.length:=by omega
         go_wp2_with(go_at_call 53;refine(sm _ _ _).mono ?_;rintro e w' ⟨rfl,rfl⟩);go_roundw
         case rel=>exact⟨i+1,by omega,by go_num,(hb.alloc hh _).alloc (by simp;omega) _⟩
         case measure=>simp [intOf];omega
        ·obtain rfl:i=J:=by omega
         by_cases hend:i <xs.length
         ·obtain⟨p,e1,hg⟩:=HB.o hend;have F:=h_ (E4.o hend);obtain⟨b,o,rfl,hj,hc⟩:=(r.below h7).at_ i _ e1;obtain⟨pc,pn⟩:=p;have h8:=hc 0 _ rfl;have he:=hc 1 _ rfl;simp only [Nat.add_zero]at h8;clear hc e1;simp only at hg;go_wp2_with(go_at_call 53;refine(sm _ _ _).mono ?_;rintro e w' ⟨rfl,rfl⟩);go_ret;exact⟨ax F.o.symm,(h7.alloc (by omega) _).alloc (by simp;omega) _⟩
         ·have F:=h_ (E0.o (by omega));go_wp2;go_ret;exact⟨ax F.o.symm,h7⟩
      ·have F:=h_ (rq (xs:=xs) hA hB fun h=>h5 h.1);have hm:((xs.length:Int)!=(s+511)/512)=true:=bN h5;go_enter Tryz.func115,Tryz.ntmps115;go_wp2;go_ret;exact⟨ax F.o.symm,h0⟩
theorem o0x(k g s:Int)(A:Option Addr)(n c:Nat)(xs:List aa)(w:World)(hs0: -9223372036854775808≤s)(hs1:s≤9223372036854775807)(r:ab w w.heap.size A n c aa.cells 2 xs):Calls Tryz.prog 122 #[.agg #[.int .i64 k,.int .i64 g,.int .i64 s,.slice A n c]] w fun e w'=>e= .returned (.int .i64 (ez k g s xs))∧Below w.heap.size w w':=by
 have hv:=r.len;subst hv;have hy:(xs.length:Int)≤9223372036854775807:=by have h1:=r.le;have h2:=r.top;unfold maxLen at h2;omega
 have h0:Below w.heap.size w (w.alloc (.cells #[.int .i64 k,.int .i64 g,.int .i64 s,.slice A xs.length c] 67)):=br.alloc ler _;by_cases hk:k <1
 ·have F:=h_ (np (k:=k) (g:=g) (s:=s) (xs:=xs) (by omega));go_enter Tryz.func122,Tryz.ntmps122;go_wp2;go_ret;exact⟨ax F.o.symm,h0⟩
 by_cases hk2:2 <k
 ·have F:=h_ (np (k:=k) (g:=g) (s:=s) (xs:=xs) (by omega));go_enter Tryz.func122,Tryz.ntmps122;go_wp2;go_ret;exact⟨ax F.o.symm,h0⟩
 obtain rfl|rfl:k=1∨k=2:=by omega
 ·by_cases h1:g <0
  ·have F:=h_ (np (k:=1) (g:=g) (s:=s) (xs:=xs) (by omega));go_enter Tryz.func122,Tryz.ntmps122;go_wp2;go_ret;exact⟨ax F.o.symm,h0⟩
  ·by_cases h2:2147483647 <g
   ·have F:=h_ (np (k:=1) (g:=g) (s:=s) (xs:=xs) (by omega));go_enter Tryz.func122,Tryz.ntmps122;go_wp2;go_ret;exact⟨ax F.o.symm,h0⟩
   ·have hA:¬(((1:Int)≠1∧(1:Int)≠2)∨g <0∨2147483647 <g):=by omega
    have hp:decide (g <0)=false:=by simpa using h1
    have hw:decide (2147483647 <g)=false:=by simpa using h2
    by_cases h3:s <0
    ·have F:=h_ (rp (xs:=xs) (s:=s) hA (by omega));go_enter Tryz.func122,Tryz.ntmps122;go_wp2;go_ret;exact⟨ax F.o.symm,h0⟩
    ·by_cases h4:4096 <s
     ·have F:=h_ (rp (xs:=xs) (s:=s) hA (by omega));go_enter Tryz.func122,Tryz.ntmps122;go_wp2;go_ret;exact⟨ax F.o.symm,h0⟩
     ·have hB:¬(s <0∨4096 <s):=by omega
      by_cases h5:(xs.length:Int)=(s+511)/512
      ·obtain⟨J,hJ,ha,h9⟩:=Cz xs;have HG:=h_ ha;have HB:=h_ h9;have E0:Hid (J=xs.length→ez 1 g s xs=0):=fun e=>D6 hA hB h5 (by rw [←e];exact ha)
       have E4:Hid (J <xs.length→ez 1 g s xs=4):=fun e=>rq hA hB fun h=>by obtain⟨p,e1,e2⟩:=h9 e;obtain⟨p',h6,hd⟩:=h.2 J e;rw [e1]at h6;injection h6 with h6;subst h6;rw [e2]at hd;cases hd
       clear ha h9 hA hB;have q1:¬(8:Int) < (xs.length:Int):=by omega
       have q2:¬512*(xs.length:Int) <s:=by omega
       have q3:¬s+512≤512*(xs.length:Int):=by omega
       go_enter Tryz.func122,Tryz.ntmps122;go_wp2;obtain⟨hu,hm,hn,ht⟩:=xp w (.int .i64 1) (.int .i64 g) (.int .i64 s) (.slice A xs.length c) 67;have hf:w.heap.size < (w.alloc (.cells #[.int .i64 1,.int .i64 g,.int .i64 s,.slice A xs.length c] 67)).heap.size:=by simp
       generalize w.alloc (.cells #[.int .i64 1,.int .i64 g,.int .i64 s,.slice A xs.length c] 67)=wa at*;go_loopw [57] (fun v18 wr=>∃i:Nat,i≤J∧v18= .int .i64 i∧Below wa.heap.size wa wr) (fun v18 _=>xs.length- (intOf v18).toNat)
       case atStart=>exact⟨0,zl,rfl,br⟩
       case round=>
        obtain⟨i,hi,rfl,hb⟩:=hrel;have h7:Below w.heap.size w wr:=h0.trans (hb.mono (Nat.le_of_lt hf));have hh:=hb.size;by_cases hlt:i <J
        ·obtain⟨p,e1,g1⟩:=HG.o i hlt;obtain⟨b,o,rfl,hj,hc⟩:=(r.below h7).at_ i _ e1;obtain⟨pc,pn⟩:=p;have h8:=hc 0 _ rfl;have he:=hc 1 _ rfl;simp only [Nat.add_zero]at h8;clear hc e1;have hq:dk pc pn=true:=g1;clear g1;have hs:i <xs.length:=by omega
         go_wp2_with(go_at_call 147;refine(uu _ _ _).mono ?_;rintro e w' ⟨rfl,rfl⟩);go_roundw
         case rel=>exact⟨i+1,by omega,by go_num,(hb.alloc hh _).alloc (by simp;omega) _⟩
         case measure=>simp [intOf];omega
        ·obtain rfl:i=J:=by omega
         by_cases hend:i <xs.length
         ·obtain⟨p,e1,hg⟩:=HB.o hend;have F:=h_ (E4.o hend);obtain⟨b,o,rfl,hj,hc⟩:=(r.below h7).at_ i _ e1;obtain⟨pc,pn⟩:=p;have h8:=hc 0 _ rfl;have he:=hc 1 _ rfl;simp only [Nat.add_zero]at h8;clear hc e1;simp only at hg;go_wp2_with(go_at_call 147;refine(uu _ _ _).mono ?_;rintro e w' ⟨rfl,rfl⟩);go_ret;exact⟨ax F.o.symm,(h7.alloc (by omega) _).alloc (by simp;omega) _⟩
         ·have F:=h_ (E0.o (by omega));go_wp2;go_ret;exact⟨ax F.o.symm,h7⟩
      ·have F:=h_ (rq (xs:=xs) hA hB fun h=>h5 h.1);by_cases q1:(8:Int) < (xs.length:Int)
       ·skip;go_enter Tryz.func122,Tryz.ntmps122;go_wp2;go_ret;exact⟨ax F.o.symm,h0⟩
       ·have hx:decide ((8:Int) < (xs.length:Int))=false:=by simpa using q1
        by_cases q2:512*(xs.length:Int) <s
        ·skip;go_enter Tryz.func122,Tryz.ntmps122;go_wp2;go_ret;exact⟨ax F.o.symm,h0⟩
        ·have q3:s+512≤512*(xs.length:Int):=by omega
         have hr:decide (512*(xs.length:Int) <s)=false:=by simpa using q2
         go_enter Tryz.func122,Tryz.ntmps122;go_wp2;go_ret;exact⟨ax F.o.symm,h0⟩
 ·by_cases h1:g <0
  ·have F:=h_ (np (k:=2) (g:=g) (s:=s) (xs:=xs) (by omega));go_enter Tryz.func122,Tryz.ntmps122;go_wp2;go_ret;exact⟨ax F.o.symm,h0⟩
  ·by_cases h2:2147483647 <g
   ·have F:=h_ (np (k:=2) (g:=g) (s:=s) (xs:=xs) (by omega));go_enter Tryz.func122,Tryz.ntmps122;go_wp2;go_ret;exact⟨ax F.o.symm,h0⟩
   ·have hA:¬(((2:Int)≠1∧(2:Int)≠2)∨g <0∨2147483647 <g):=by omega
    have hp:decide (g <0)=false:=by simpa using h1
    have hw:decide (2147483647 <g)=false:=by simpa using h2
    by_cases h3:s <0
    ·have F:=h_ (rp (xs:=xs) (s:=s) hA (by omega));go_enter Tryz.func122,Tryz.ntmps122;go_wp2;go_ret;exact⟨ax F.o.symm,h0⟩
    ·by_cases h4:4096 <s
     ·have F:=h_ (rp (xs:=xs) (s:=s) hA (by omega));go_enter Tryz.func122,Tryz.ntmps122;go_wp2;go_ret;exact⟨ax F.o.symm,h0⟩
     ·have hB:¬(s <0∨4096 <s):=by omega
      by_cases h5:(xs.length:Int)=(s+511)/512
      ·obtain⟨J,hJ,ha,h9⟩:=Cz xs;have HG:=h_ ha;have HB:=h_ h9;have E0:Hid (J=xs.length→ez 2 g s xs=0):=fun e=>D6 hA hB h5 (by rw [←e];exact ha)
       have E4:Hid (J <xs.length→ez 2 g s xs=4):=fun e=>rq hA hB fun h=>by obtain⟨p,e1,e2⟩:=h9 e;obtain⟨p',h6,hd⟩:=h.2 J e;rw [e1]at h6;injection h6 with h6;subst h6;rw [e2]at hd;cases hd
       clear ha h9 hA hB;have q1:¬(8:Int) < (xs.length:Int):=by omega
       have q2:¬512*(xs.length:Int) <s:=by omega
       have q3:¬s+512≤512*(xs.length:Int):=by omega
       go_enter Tryz.func122,Tryz.ntmps122;go_wp2;obtain⟨hu,hm,hn,ht⟩:=xp w (.int .i64 2) (.int .i64 g) (.int .i64 s) (.slice A xs.length c) 67;have hf:w.heap.size < (w.alloc (.cells #[.int .i64 2,.int .i64 g,.int .i64 s,.slice A xs.length c] 67)).heap.size:=by simp
       generalize w.alloc (.cells #[.int .i64 2,.int .i64 g,.int .i64 s,.slice A xs.length c] 67)=wa at*;go_loopw [57] (fun v18 wr=>∃i:Nat,i≤J∧v18= .int .i64 i∧Below wa.heap.size wa wr) (fun v18 _=>xs.length- (intOf v18).toNat)
       case atStart=>exact⟨0,zl,rfl,br⟩
       case round=>
        obtain⟨i,hi,rfl,hb⟩:=hrel;have h7:Below w.heap.size w wr:=h0.trans (hb.mono (Nat.le_of_lt hf));have hh:=hb.size;by_cases hlt:i <J
        ·obtain⟨p,e1,g1⟩:=HG.o i hlt;obtain⟨b,o,rfl,hj,hc⟩:=(r.below h7).at_ i _ e1;obtain⟨pc,pn⟩:=p;have h8:=hc 0 _ rfl;have he:=hc 1 _ rfl;simp only [Nat.add_zero]at h8;clear hc e1;have hq:dk pc pn=true:=g1;clear g1;have hs:i <xs.length:=by omega
         go_wp2_with(go_at_call 147;refine(uu _ _ _).mono ?_;rintro e w' ⟨rfl,rfl⟩);go_roundw
         case rel=>exact⟨i+1,by omega,by go_num,(hb.alloc hh _).alloc (by simp;omega) _⟩
         case measure=>simp [intOf];omega
        ·obtain rfl:i=J:=by omega
         by_cases hend:i <xs.length
         ·obtain⟨p,e1,hg⟩:=HB.o hend;have F:=h_ (E4.o hend);obtain⟨b,o,rfl,hj,hc⟩:=(r.below h7).at_ i _ e1;obtain⟨pc,pn⟩:=p;have h8:=hc 0 _ rfl;have he:=hc 1 _ rfl;simp only [Nat.add_zero]at h8;clear hc e1;simp only at hg;go_wp2_with(go_at_call 147;refine(uu _ _ _).mono ?_;rintro e w' ⟨rfl,rfl⟩);go_ret;exact⟨ax F.o.symm,(h7.alloc (by omega) _).alloc (by simp;omega) _⟩
         ·have F:=h_ (E0.o (by omega));go_wp2;go_ret;exact⟨ax F.o.symm,h7⟩
      ·have F:=h_ (rq (xs:=xs) hA hB fun h=>h5 h.1);by_cases q1:(8:Int) < (xs.length:Int)
       ·skip;go_enter Tryz.func122,Tryz.ntmps122;go_wp2;go_ret;exact⟨ax F.o.symm,h0⟩
       ·have hx:decide ((8:Int) < (xs.length:Int))=false:=by simpa using q1
        by_cases q2:512*(xs.length:Int) <s
        ·skip;go_enter Tryz.func122,Tryz.ntmps122;go_wp2;go_ret;exact⟨ax F.o.symm,h0⟩
        ·have q3:s+512≤512*(xs.length:Int):=by omega
         have hr:decide (512*(xs.length:Int) <s)=false:=by simpa using q2
         go_enter Tryz.func122,Tryz.ntmps122;go_wp2;go_ret;exact⟨ax F.o.symm,h0⟩
end Go.Proofs.YtcldpfhpkbeaiadGreat
