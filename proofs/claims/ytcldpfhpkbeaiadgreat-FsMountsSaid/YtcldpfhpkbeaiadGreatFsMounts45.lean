/- A part of the proof of FsMounts. No condition of ours. -/
import Derived.Test.YtcldpfhpkbeaiadGreatFsMounts44
namespace Go.Proofs.YtcldpfhpkbeaiadGreat
open Go.RowKit Go.PlainAid
theorem Rs{s:ByteArray}(h:ch s=0):0≤d9 s∧d9 s≤2147483647:=by
 have hn:d9 s=oN s:=by unfold d9;rw [if_pos h]
 rw [hn];unfold ch at h;split at h
 ·cases h
 ·split at h
  ·cases h
  ·split at h
   ·cases h
   ·split at h
    ·rename_i hf;have:=hf.2;unfold dh at this;split at this
     ·cases this
     ·rename_i hq;exact⟨by omega,by omega⟩
    ·cases h
theorem d0u(t:ByteArray):scN t≤2147483647:=by
 unfold scN;split
 ·rename_i h;exact(Rs h.1).2
 ·decide
theorem Gy(T:ByteArray):0≤prN T∧prN T≤2147483647∧0≤prS T∧prS T≤2147483647:=by
 by_cases h:gu T
 ·obtain⟨_,h1,h2,_⟩:=yu h;obtain⟨h3,h4⟩:=Rs h.1;have h5:=h.2.2.2.2;rw [h1,h2];refine⟨h3,h4,?_,h5⟩;obtain⟨e,_⟩:=pv (s:=(aq T).extract 0 4) (by rw [ByteArray.size_extract];omega);rw [e];exact(rz _ (fun j=>bt_nonneg _ _) (fun j=>bt_le _ _) _).1
 ·obtain⟨h1,h2,_⟩:=Gz h;rw [h1,h2];decide
theorem On{cs:List ByteArray}{a:Int}(ha:a≤2147483647):a≤dr cs [] a∧dr cs [] a≤2147483647:=
 ⟨zf _ _,Im ha (fun i y h=>by
  unfold lgN at h
  split at h
  ·injection h with h;subst h;exact d0u _
  ·cases h) _ _⟩
theorem yv{T:ByteArray}(h:prE T=0):bu (prP T) (prG T)=0:=by
 have hp:gu T:=by
  by_cases h2:gu T
  ·exact h2
  ·unfold prE at h;split at h
   ·rename_i h3;exact absurd h h3
   ·cases h
 obtain⟨_,_,_,e1,e2⟩:=yu hp;rw [e1,e2];have hi:=hp.2.2.2.1
 have ho:jr ((aq T).extract 4 (aq T).size):=by
  by_cases h2:jr ((aq T).extract 4 (aq T).size)
  ·exact h2
  ·rw [(Ub h2).1]at hi;cases hi
 obtain⟨_,e3,e4⟩:=Jd ho;rw [e3,e4];exact ho.right
theorem Qd{cell:Int}:∀ {L:List bz} {k:Nat} {m m1:List aa×List Int},m.1.length=48∧m.2.length=48→ft cell k L m=some m1→m1.1.length=48∧m1.2.length=48
 | [],k,m,m1,h,hr=>by injection hr with hr;subst hr;exact h
 |b::r,k,m,m1,h,hr=>by
  simp only [ft]at hr;cases h1:im cell k b m with
  |none=>rw [h1]at hr;cases hr
  |some m2=>
   rw [h1]at hr;refine Qd ?_ hr;unfold im at h1;split at h1
   ·split at h1
    ·rename_i hE;injection h1 with h1;subst h1;exact Oh hE
    ·cases h1
   ·split at h1
    ·split at h1
     ·rename_i hE;injection h1 with h1;subst h1;exact Wn hE
     ·cases h1
    ·injection h1 with h1;subst h1;exact h
section
variable {cs:List ByteArray} {ws:List ae}
theorem Ik(hd:au cs ws=0)(h:ws≠ []):mtE cs ws=1:=by unfold mtE;rw [if_neg (fun g=>g hd),if_pos h]
theorem Su(hd:au cs []=0)(h:nwE cs []≠0):mtE cs []=nwE cs []:=by unfold mtE;rw [if_neg (fun g=>g hd),if_neg (fun g=>g rfl),if_pos h]
theorem St(hd:au cs []=0)(hn:nwE cs []=0)(hs:kj cs [] (prS (nwU cs []))=0)(h:mtM cs=none):mtE cs []=18:=by unfold mtE;rw [if_neg (fun g=>g hd),if_neg (fun g=>g rfl),if_neg (fun g=>g hn),if_neg (fun g=>g hs),h]
theorem Ss(hd:au cs []=0)(hn:nwE cs []=0)(hs:kj cs [] (prS (nwU cs []))=0){m:List aa×List Int}(h:mtM cs=some m):(¬ea cs m.1 m.2→mtE cs []=18)∧(ea cs m.1 m.2→mtE cs []=syE cs [] m.1 m.2 (dr cs [] (prS (nwU cs []))) (prN (nwU cs []))):=by unfold mtE;rw [if_neg (fun g=>g hd),if_neg (fun g=>g rfl),if_neg (fun g=>g hn),if_neg (fun g=>g hs),h];exact⟨fun h=>if_neg h,fun h=>if_pos h⟩
end
theorem q0k{t:TypeId}{cs:List ByteArray}{xs:List aa}{gs:List Int}{W:World}{cA aA gA:Option Addr}{cn cc an ac gn gc:Nat}{z u:Int}(rc:ab W W.heap.size cA cn cc (fun z=>[.string z]) 1 cs)(ra:ab W W.heap.size aA an ac aa.cells 2 xs)(rg:ab W W.heap.size gA gn gc (fun z=>[.int .i64 z]) 1 gs):ef t W.heap.size cs [] xs gs [] [] ⟨cA,cn,cc,none,0,0,aA,an,ac,gA,gn,gc,z,u,none,0,0,none,0,0⟩ (W.alloc (.cells #[.slice cA cn cc,.slice none 0 0,.slice aA an ac,.slice gA gn gc,.int .i64 z,.int .i64 u,.slice none 0 0,.slice none 0 0] t)):=by
 have hs:W.heap.size≤(W.alloc (.cells #[.slice cA cn cc,.slice none 0 0,.slice aA an ac,.slice gA gn gc,.int .i64 z,.int .i64 u,.slice none 0 0,.slice none 0 0] t)).heap.size:=by simp
 exact {box:=A_ W _,rc:=(rc.alloc ler _).more hs,rw':=Ig _ _,ra:=(ra.alloc ler _).more hs,rg:=(rg.alloc ler _).more hs,
        of:=af.nil _ _ _,oo:=af.nil _ _ _,nb:=⟨da.of_rows rc ler,da.none _ _,da.of_rows ra ler,da.of_rows rg ler⟩,
        no:=(fun g hg=>by cases hg),nf:=(fun g hg=>by cases hg)}
structure Lm(cs:List ByteArray)(ws:List ae)(xs:List aa)(gs:List Int)(seen s:List Nat)(l:List be):Prop where
 ok:∀k∈s,k∈seen∨kc cs ws k (xs.getD k ⟨0,0⟩) (gs.getD k 0)
 sub:∀k∈seen,k∈s
 len:s.length=seen.length+l.length
 nodup:seen.Nodup→s.Nodup
 lt:(∀k∈seen,k <48)→∀k∈s,k <48
section
variable {cs cs':List ByteArray} {ws:List ae} {xs:List aa} {gs:List Int}
theorem Mw{V:List Nat→Nat→List UInt8→Option (List Nat×List be)}(hV:∀seen n path s l,n <48→V seen n path=some (s,l)→Lm cs ws xs gs seen s l):∀(L:List ay) (path:List UInt8) (seen s:List Nat) (l:List be),(∀e∈L,e.Ino.toNat <48)→fp V path seen L=some (s,l)→Lm cs ws xs gs seen s l
 | [],path,seen,s,l,_,h=>by simp only [fp,Option.some.injEq,Prod.mk.injEq]at h;obtain⟨rfl,rfl⟩:=h;exact⟨fun k hk=>.inl hk,fun k hk=>hk,rfl,fun h=>h,fun h=>h⟩
 |e::r,path,seen,s,l,hL,h=>by
  simp only [fp]at h;cases h1:V seen e.Ino.toNat (path++47::bl e.Name)with
  |none=>rw [h1]at h;cases h
  |some p=>
   obtain⟨s1,l1⟩:=p;rw [h1]at h;simp only at h;cases h2:fp V path s1 r with
   |none=>rw [h2]at h;cases h
   |some p2=>
    obtain⟨s2,l2⟩:=p2;rw [h2]at h;simp only [Option.some.injEq,Prod.mk.injEq]at h;obtain⟨rfl,rfl⟩:=h;have a:=hV _ _ _ _ _ (hL e (List.mem_cons_self ..)) h1;have b:=Mw hV r path s1 s2 l2 (fun x hx=>hL x (List.mem_cons_of_mem _ hx)) h2;refine⟨fun k hk=>?_,fun k hk=>b.sub k (a.sub k hk),by rw [b.len,a.len,List.length_append];omega,fun h=>b.nodup (a.nodup h),fun h=>b.lt (a.lt h)⟩;rcases b.ok k hk with h3|h3
    ·exact a.ok k h3
    ·exact .inr h3
theorem y9:∀(f:Nat) (seen:List Nat) (n:Nat) (path:List UInt8) (s:List Nat) (l:List be),n <48→vis cs ws xs gs f seen n path=some (s,l)→Lm cs ws xs gs seen s l
 |0,_,_,_,_,_,_,h=>by rw [uc]at h;cases h
 |f+1,seen,n,path,s,l,hn,h=>by
  unfold vis at h;split at h
  ·cases h
  ·rename_i hs;split at h
   ·rename_i hok;split at h
    ·simp only [Option.some.injEq,Prod.mk.injEq]at h;obtain⟨rfl,rfl⟩:=h;refine⟨fun k hk=>?_,fun k hk=>List.mem_cons_of_mem _ hk,by simp,fun h=>List.nodup_cons.2 ⟨hs,h⟩,fun h k hk=>?_⟩
     ·rcases List.mem_cons.1 hk with rfl|hk
      ·exact .inr hok
      ·exact .inl hk
     ·rcases List.mem_cons.1 hk with rfl|hk
      ·exact hn
      ·exact h k hk
    ·split at h
     ·split at h
      ·cases h
      ·rename_i s1 l1 hv;simp only [Option.some.injEq,Prod.mk.injEq]at h;obtain⟨rfl,rfl⟩:=h;have a:=Mw (y9 f) _ _ _ _ _ (fun e he=>by have:=(Bx (s:=ndT cs ws (xs.getD n ⟨0,0⟩))).2 e he;omega) hv;refine⟨fun k hk=>?_,fun k hk=>a.sub k (List.mem_cons_of_mem _ hk),by rw [a.len,List.length_cons,List.length_cons];omega,fun h=>a.nodup (List.nodup_cons.2 ⟨hs,h⟩),fun h=>a.lt (fun k hk=>?_)⟩
       ·rcases a.ok k hk with h3|h3
        ·rcases List.mem_cons.1 h3 with rfl|h3
         ·exact .inr hok
         ·exact .inl h3
        ·exact .inr h3
       ·rcases List.mem_cons.1 hk with rfl|hk
        ·exact hn
        ·exact h k hk
     ·cases h
   ·cases h
theorem k0s{n:Nat}{p:aa}{g:Int}(h:kc cs ws n p g):zr cs ws n p g:=by
 refine .inr ⟨h.2.1,fun j q hj hq=>?_⟩;rcases h.2.2 j q hq with h1|h1
 ·exact .inl h1
 ·exact .inr h1.1
theorem getD_some{α:Type}{l:List α}{k:Nat}{x d:α}(h:l[k]?=some x):l.getD k d=x:=by rw [gD,h];rfl
theorem Md(h:ea cs xs gs):ix cs [] xs gs 48:=fun n p g hn hp hg=>by
 obtain⟨s,l,hv,_,ha⟩:=h;by_cases h0:p.Cell=0
 ·exact .inl h0
 ·have r:=y9 _ _ _ _ _ _ (by omega) hv;rcases r.ok n (ha n p hp h0)with h1|h1
  ·simp at h1
  ·rw [getD_some hp,getD_some hg]at h1;exact k0s h1
theorem If:∀(m:Nat) (s:List Nat),s.Nodup→(∀k∈s,k <m)→s.length≤m
 |0,[],_,_=>Nat.le_refl _
 |0,k::_,_,h=>by have:=h k (List.mem_cons_self ..);omega
 |m+1,s,hn,h=>by
  have h1:=If m (s.erase m) (hn.erase m) (fun k hk=>by
  have h2:=h k (List.mem_of_mem_erase hk)
  have h3:k≠m:=fun e=>by subst e;exact(List.Nodup.not_mem_erase hn) hk
  omega)
  have h2:=List.length_erase_le (a:=m) (l:=s);by_cases hm:m∈s
  ·rw [List.length_erase_of_mem hm]at h1;omega
  ·rw [List.erase_of_not_mem hm]at h1;omega
theorem Zz{f:Nat}{s:List Nat}{l:List be}{path:List UInt8}(h:vis cs ws xs gs f [] 0 path=some (s,l)):l.length≤48:=by have r:=y9 _ _ _ _ _ _ (by omega) h;have h1:=If 48 s (r.nodup List.nodup_nil) (r.lt (fun k hk=>by simp at hk));have h2:=r.len;simp at h2;omega
structure ld(cs cs':List ByteArray):Prop where
 len:cs'.length=cs.length
 now:∀k:Int,2≤k→ar cs' [] k=ar cs [] k
theorem Le(h:ld cs cs'):ubE cs' []=ubE cs []:=by
 funext pc pn;by_cases h2:pc <2
 ·rw [ud (.inl h2),ud (.inl h2)]
 ·unfold ubE;rw [h.len,h.now pc (by omega)]
theorem Em(h:ld cs cs'):ubB cs' []=ubB cs []:=by
 funext pc pn;unfold ubB;rw [Le h];split
 ·rename_i h0;have:¬pc <2:=fun h2=>by rw [ud (.inl h2)]at h0;cases h0
  rw [h.now pc (by omega)]
 ·rfl
theorem Yv(h:ld cs cs'):fw cs' []=fw cs []:=by funext n p g;unfold fw;rw [Le h,Em h]
theorem Yu(h:ld cs cs'):km cs' []=km cs []:=by funext n k q;unfold km;rw [Le h,Em h]
theorem Lf(h:ld cs cs'):pts cs' []=pts cs []:=by funext p;unfold pts;rw [Em h]
theorem x0d(h:ld cs cs'):ix cs' [] xs gs=ix cs [] xs gs:=by funext i;unfold ix zr ov;rw [Yv h,Yu h,Lf h]
theorem En(h:ld cs cs'):ptX cs' []=ptX cs []:=by funext p;unfold ptX;rw [Em h]
theorem x0c(h:ld cs cs'):dtT cs' []=dtT cs []:=by funext p;unfold dtT;rw [En h]
theorem x0a(h:ld cs cs'):kc cs' []=kc cs []:=by funext n p g;unfold kc i8 mp ndS;rw [Yv h,Yu h,Lf h,En h]
theorem x0b(h:ld cs cs'):ndK cs' []=ndK cs []:=by funext p;unfold ndK;rw [En h]
theorem w0z(h:ld cs cs'):ndT cs' []=ndT cs []:=by funext p;unfold ndT ndB ndS;rw [En h,Lf h,x0c h]
theorem Ys(h:ld cs cs'):∀f,vis cs' [] xs gs f=vis cs [] xs gs f
 |0=>by funext s n p;rw [uc,uc]
 |f+1=>by funext s n p;unfold vis;rw [x0a h,x0b h,w0z h,Ys h f]
theorem Xc:∀ {l:List ByteArray},gd l=0→∀s∈l,s.size≤1024
 | [],_,s,hs=>by simp at hs
 |x::r,h,s,hs=>by
  simp only [gd]at h;split at h
  ·cases h
  ·rcases List.mem_cons.1 hs with rfl|hs
   ·omega
   ·exact Xc h s hs
theorem Xb:∀ {l:List ByteArray},(∀s∈l,s.size≤1024)→gd l=0
 | [],_=>rfl
 |x::r,h=>by simp only [gd];rw [if_neg (by have:=h x (List.mem_cons_self ..);omega)];exact Xb fun s hs=>h s (List.mem_cons_of_mem _ hs)
theorem s0n{a:Int}{t:ByteArray}(hd:au cs []=0)(h0:0≤a)(h1:a <cs.length)(ht:t.size≤1024):wrE cs [] a t=0∧au cs [⟨a,t⟩]=0:=by
 obtain⟨q1,q2,q3,_,_⟩:=jz hd;have hp:ey cs.length a t.size=0:=by unfold ey;rw [if_neg (by omega),if_neg (by omega)]
 refine⟨M8 hd hp (by simp),Dy (by omega) q3 ?_ (by simp)⟩;simp only [fg];rw [if_neg (fun h=>h hp)]
theorem n0v(hd:au cs []=0):my ia cs []=cs:=by
 unfold my;rw [if_pos hd];refine List.ext_getElem? fun i=>?_
 unfold kp;rw [List.getElem?_map];by_cases hi:i <cs.length
 ·rw [List.getElem?_range hi];simp [gf,gE hi]
 ·rw [List.getElem?_eq_none (by simpa using hi),List.getElem?_eq_none (by omega)];rfl
theorem Tn(ws:List ae){i:Nat}(hi:i <cs.length):(kp ia cs ws)[i]?=some (ar cs ws i):=by unfold kp ar;rw [List.getElem?_map,List.getElem?_range hi];rfl
theorem b0n{ser t:Int}(hd:au cs []=0)(hc:2≤cs.length)(ht:(syT xs gs ser t).size≤1024):syX cs [] xs gs ser t=kp ia cs [⟨(t+1)%2,syT xs gs ser t⟩]:=by
 have h0:0≤(t+1)%2∧(t+1)%2 <2:=by omega
 obtain⟨e1,e2⟩:=s0n (a:=(t+1)%2) hd h0.1 (by omega) ht;unfold syX;rw [n0v hd];unfold wrX wrY;rw [if_pos e1,if_pos e1,List.nil_append];unfold my;rw [if_pos e2]
theorem b0p{ser t:Int}(hd:au cs []=0)(hc:2≤cs.length)(ht:(syT xs gs ser t).size≤1024):ld cs (syX cs [] xs gs ser t)∧au (syX cs [] xs gs ser t) []=0:=by
 obtain⟨q1,q2,q3,_,_⟩:=jz hd;have h0:0≤(t+1)%2∧(t+1)%2 <2:=by omega
 rw [b0n hd hc ht];refine⟨⟨Cx _ _ _,fun k hk=>?_⟩,?_⟩
 ·unfold ar;simp only [gf];by_cases hi:k.toNat <cs.length
  ·rw [gD,Tn _ hi];show ar cs _ (k.toNat:Int)=_;unfold ar;simp only [gf];rw [if_neg (by omega),Int.toNat_natCast]
  ·rw [gD,gD,List.getElem?_eq_none (by rw [Cx];omega),List.getElem?_eq_none (by omega)]
 ·refine Dy (by rw [Cx];omega) (Xb fun s hs=>?_) rfl (by simp);obtain⟨i,hi⟩:=List.mem_iff_getElem?.1 hs;have hl:i <cs.length:=by have:=(gS.1 hi).1;rwa [Cx]at this
  rw [Tn _ hl]at hi;injection hi with hi;subst hi;unfold ar;simp only [gf];split
  ·exact ht
  ·refine Xc q3 _ ?_;rw [Int.toNat_natCast,gD,gE hl];exact List.getElem_mem hl
theorem b0q{ser t:Int}(hi:bu xs gs=0)(h0:0≤ser)(h1:ser≤2147483647)(h2:0≤t+1)(h3:t+1≤2147483647):m5 (t+1) ser xs gs=0∧(syT xs gs ser t).size≤1024:=by
 obtain⟨e1,e2⟩:=Qz (t:=t+1) (z:=ser) (by unfold ph;omega) hi
 have hb:(ka ser xs gs).size≤580:=by
  unfold ka;rw [strOfNums_size,List.length_append];have h4:=Ud xs gs;have h5:=(te hi).1;have h6:(cb 4 ser).length=4:=by simp [cb]
  omega
 have hs:dh 2 (t+1) (ka ser xs gs).size=0:=ym (by omega) (by omega);refine⟨by rw [e1,hs],?_⟩;unfold syT;rw [strOfNums_size,e2,Bs hs,List.length_append];have h7:(gv (fj (strOfNums (ew 2 (t+1) (ka ser xs gs))))).length=4:=by simp [gv]
 have h8:(ew 2 (t+1) (ka ser xs gs)).length=7+(ka ser xs gs).size:=Gf _ _ _;omega
theorem b0k{ser t:Int}(hd:au cs []=0)(hi:bu xs gs=0)(hw:ea cs xs gs)(h0:0≤ser)(h1:ser≤2147483647)(h2:0≤t)(h3:t≤2147483647):(t=2147483647→syE cs [] xs gs ser t=9)∧(t≠2147483647→syE cs [] xs gs ser t=0∧ld cs (syX cs [] xs gs ser t)∧au (syX cs [] xs gs ser t) []=0):=by
 refine⟨fun h=>by unfold syE;rw [if_pos (by omega)],fun h=>?_⟩
 have hc:2≤cs.length:=by
  obtain⟨s,l,hv,_⟩:=hw
  have hn:kc cs [] 0 (xs.getD 0 ⟨0,0⟩) (gs.getD 0 0):=by
   unfold vis at hv;split at hv
   ·cases hv
   ·split at hv
    ·assumption
    ·cases hv
  have:=(Bh hn.2.1.1);omega
 obtain⟨e1,e2⟩:=b0q (ser:=ser) (t:=t) hi h0 h1 (by omega) (by omega);obtain⟨e3,e4⟩:=b0p (xs:=xs) (gs:=gs) (ser:=ser) (t:=t) hd hc e2;refine⟨?_,e3,e4⟩;unfold syE;rw [if_neg (by omega),if_neg (fun h=>h e1)];exact(Nc e4 hi (by rw [x0d e3];exact Md hw)).1
end
end Go.Proofs.YtcldpfhpkbeaiadGreat
