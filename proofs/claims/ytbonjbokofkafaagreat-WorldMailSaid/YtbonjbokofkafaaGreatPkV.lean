/- Lemmas of the proof: PkV. -/
import Derived.Test.YtbonjbokofkafaaGreatPkU
import Derived.Test.YtbonjbokofkafaaGreatPkS
import Derived.Test.YtbonjbokofkafaaGreatPkH
namespace Go.Proofs.YtbonjbokofkafaaGreat
set_option linter.unusedVariables false
set_option maxRecDepth 100000
set_option maxHeartbeats 64000000
section
open Go.RowKit
abbrev Z9r (l:List Ms):Prop:=∀ m ∈ l,MayM m
theorem Z0r:Z9r []:=fun m hm=>by cases hm
theorem Z2k {m:Ms} (h:MayM m):Z9r [m]:=fun x hx=>by rw [List.mem_singleton.1 hx];exact h
theorem Z6s {α:Type} {l:List α} {f:α→Ms} (h:∀ k ∈ l,MayM (f k)):Z9r (l.map f):=fun m hm=>by
 obtain⟨k,hk,rfl⟩:=List.mem_map.1 hm
 exact h k hk
theorem Z7k {s:Nd} {t k:Int} (h:k ∈ s.others t):1≤k∧k≤7∧k≠s.id:=by
 unfold Nd.others at h
 obtain⟨h1,h2⟩:=List.mem_filter.1 h
 have h3:Z18 t.toNat k=true:=by rw [Z9u];simpa using h1
 unfold Z18 isB at h3
 simp only [Bool.and_eq_true,decide_eq_true_eq,bne_iff_ne,ne_eq] at h3 h2
 exact⟨h3.1.1,h3.1.2,h2.1⟩
theorem Z4f (s:Nd) (t:Int):(s.others t).length≤7:=Nat.le_trans (List.length_filter_le _ _) (Z38 _ 7)
section
variable {c:Nat} {s:Nd}
theorem Okg.ms (h:Okg c s) {k too:Int} (h1:1≤k) (h2:k≤13) (t1:1≤too) (t2:too≤7) (tn:too≠s.id):MayM (s.ms k too):=
 have i1:=h.i1
 have i2:=h.in_
 have i3:=h.n7
 ⟨h1,h2,i1,by show s.id≤7;omega,t1,t2,fun e=>tn e.symm,h.b1,h.b2,Int.le_refl _,by show (0:Int)≤1099511627776;omega,Int.le_refl _,by show (0:Int)≤1099511627776;omega,Int.le_refl _,by show (0:Int)≤1099511627776;omega,Int.le_refl _,by show (0:Int)≤1099511627776;omega,
  Int.le_refl _,by show (0:Int)≤127;omega,Int.le_refl _,by show (0:Int)≤60;omega,Int.le_refl _,by show (0:Int)≤60;omega,Nat.zero_le _,fun e he=>by cases he⟩
theorem Okg.msO (h:Okg c s) {k t too:Int} (h1:1≤k) (h2:k≤13) (ht:too ∈ s.others t):MayM (s.ms k too):=h.ms h1 h2 (Z7k ht).1 (Z7k ht).2.1 (Z7k ht).2.2
theorem Okg.last2 (h:Okg c s):s.last≤1099511627776:=by have:=h.l1;have:=h.d1;omega
theorem Okg.com2 (h:Okg c s):s.com≤60:=by have:=h.o1;have:=h.lg;omega
theorem Okg.wholeM (h:Okg c s) {t k:Int} (hk:k ∈ s.others t):MayM (s.whole k):=
 { h.msO (k:=4) (by omega) (by omega) hk with v1:=h.l0,v2:=h.last2,m1:=h.m0,m2:=by have:=h.m1;show s.mem≤127;omega,e1:=h.lg,e2:=h.lm,o1:=h.o0,o2:=h.com2 }
theorem Okg.ackMM (h:Okg c s) {k num:Int} (t1:1≤k) (t2:k≤7) (tn:k≠s.id) (n1:0≤num) (n2:num≤1099511627776):MayM (s.ackM k num):=
 { h.ms (k:=6) (by omega) (by omega) t1 t2 tn with v1:=h.l0,v2:=h.last2,p1:=by show 0≤(s.L.length:Int);omega,p2:=by have:=h.lg;show (s.L.length:Int)≤60;omega,n1:=n1,n2:=n2 }
theorem Okg.proposeM (h:Okg c s):s.propose.2.length≤7∧Z9r s.propose.2:=by
 unfold Nd.propose
 dsimp only
 split
 ·exact⟨Nat.zero_le _,Z0r⟩
 ·next hn=>
  have hd:=h.d0
  exact⟨by rw [List.length_map];exact Z4f s _,Z6s fun k hk=>{ h.msO (k:=1) (by omega) (by omega) hk with v1:=by show 0≤s.nextV;omega,v2:=by show s.nextV≤1099511627776;omega }⟩
theorem Okg.gatherM (h:Okg c s) {u:Int} {l:List Vt} (hv:s.v=some (u,l)) (hu:u=s.dv):(s.gather u l).2.length≤7∧Z9r (s.gather u l).2:=by
 unfold Nd.gather
 split
 ·have h1:=h.install hv hu
  exact⟨by unfold Nd.install;dsimp only;rw [List.length_map];exact Z4f _ _,Z6s fun k hk=>h1.wholeM hk⟩
 ·split
  ·exact h.proposeM
  ·exact⟨by rw [List.length_map];exact Nat.le_trans (List.length_filter_le _ _) (Z4f s _),Z6s fun k hk=>{ h.msO (k:=1) (by omega) (by omega) (List.mem_filter.1 hk).1 with v1:=by show 0≤u;rw [hu];exact h.d0,v2:=by show u≤1099511627776;rw [hu];exact h.d1 }⟩
def prbP (q:Option Qd):Int:=match q with | some q=>q.last+1 | none=>0
def posP (q:Option Qd) (k:Int):Int:=match q with | some q=>q.have_ k | none=>0
theorem Okg.decideM (h:Okg c s) (hc:c<400000):s.decide_.2.length≤7∧Z9r s.decide_.2:=by
 have h1:=Okg.adds s.pend h
 have hd:=Okg.decide_ h (by omega)
 unfold Nd.decide_ at hd ⊢
 dsimp only at hd ⊢
 generalize s.pend.foldl Nd.add s=s1 at h1 hd ⊢
 split
 ·exact h1.proposeM
 ·next hs=>
  rw [if_neg hs] at hd
  refine⟨by rw [List.length_map];exact Z4f _ _,Z6s fun k hk=>?_⟩
  have hp:(0:Int)≤prbP s1.q∧prbP s1.q≤1099511627776:=by
   cases hq:s1.q with
   | none=>show (0:Int)≤0∧(0:Int)≤1099511627776;omega
   | some q=>
     obtain⟨_,_,_,_,a5,a6,_⟩:=h1.qd q hq
     show (0:Int)≤q.last+1∧q.last+1≤1099511627776
     omega
  split
  ·have hq:(0:Int)≤posP (s1.q.map Qd.next) k∧posP (s1.q.map Qd.next) k≤60:=by
    cases hq:s1.q with
    | none=>show (0:Int)≤0∧(0:Int)≤60;omega
    | some q=>
      obtain⟨_,_,_,_,_,_,a7⟩:=h1.qd q hq
      show (0:Int)≤(q.next).have_ k∧(q.next).have_ k≤60
      unfold Qd.have_
      split
      ·exact Z9j (P:=fun x=>0≤x∧x≤60) a7 (by omega) k.toNat
      ·omega
   have c0:=h1.c0;have c1:=h1.c1
   exact { hd.msO (k:=5) (by omega) (by omega) hk with
    v1:=h1.l0
    v2:=h1.last2
    p1:=by show (0:Int)≤posP (s1.q.map Qd.next) k;exact hq.1
    p2:=by show posP (s1.q.map Qd.next) k≤60;exact hq.2
    e1:=by show (s1.L.drop _).length≤60;rw [List.length_drop];have:=h1.lg;omega
    e2:=fun e he=>h1.lm e (List.mem_of_mem_drop he)
    o1:=h1.o0
    o2:=h1.com2
    n1:=by show (0:Int)≤prbP s1.q;exact hp.1
    n2:=by show prbP s1.q≤1099511627776;exact hp.2
    c1:=c0
    c2:=by show s1.clock≤1099511627776;omega }
  ·exact hd.wholeM hk
theorem Okg.askM (h:Okg c s) (hc:c<400000) (hn:Z1y s.last s.n≠s.id) (hl:1≤Z1y s.last s.n∧Z1y s.last s.n≤7):s.ask.2.length≤7∧Z9r s.ask.2:=by
 have h1:=h.q0;have h2:=h.q1;have h3:=h.b3;have h4:=h.pd
 unfold Nd.ask
 dsimp only
 refine⟨by rw [List.length_cons];split<;>simp,fun m hm=>?_⟩
 rcases List.mem_cons.1 hm with rfl | hm
 ·exact { h.ms (k:=8) (by omega) (by omega) hl.1 hl.2 hn with v1:=h.l0,v2:=h.last2,n1:=by show 0≤s.pf.num+1;omega,n2:=by show s.pf.num+1≤1099511627776;omega }
 ·split at hm
  ·cases hm
  ·rw [List.mem_singleton.1 hm]
   exact { h.ms (k:=7) (by omega) (by omega) hl.1 hl.2 hn with e1:=by show s.pend.length≤60;omega,e2:=h.pm }
end
end
section
open Go.RowKit
def Mn (s:Nd):Prop:=0<s.last→Z1y s.last s.n=s.id→s.mine=true
abbrev kM (s:Nd):=(s.last,s.n,s.id,s.mine)
theorem Mn.of {s t:Nd} (h:Mn s) (e:kM t=kM s):Mn t:=by
 simp only [kM,Prod.mk.injEq] at e
 obtain⟨e1,e2,e3,e4⟩:=e
 unfold Mn;rw [e1,e2,e3,e4];exact h
theorem kM_add (s:Nd) (e:Ent):kM (s.add e)=kM s:=by unfold Nd.add;dsimp only;split<;>rfl
theorem Zjg:∀ (l:List Ent) (s:Nd),kM (l.foldl Nd.add s)=kM s
 | [],s=>rfl
 | e :: l,s=>(Zjg l (s.add e)).trans (kM_add s e)
theorem Z64 (s:Nd):kM s.propose.1=kM s:=by unfold Nd.propose;dsimp only;split<;>rfl
theorem Mn.gather {s:Nd} (h:Mn s) (u:Int) (l:List Vt):Mn (s.gather u l).1:=by
 unfold Nd.gather
 split
 ·exact fun _ _=>rfl
 ·split
  ·exact h.of (Z64 s)
  ·exact h
theorem Mn.decide_ {s:Nd} (h:Mn s):Mn s.decide_.1:=by
 have h1:Mn (s.pend.foldl Nd.add s):=h.of (Zjg _ _)
 unfold Nd.decide_
 dsimp only
 split
 ·exact h1.of (Z64 _)
 ·exact h1.of rfl
theorem Mn.tick0 {s:Nd} (h:Mn s):Mn s.tick0.1:=by
 have hr:Mn (if s.decides then s.decide_ else if s.late then s.propose else if s.in_ then s.ask else (s,[])).1:=by
  split
  ·exact h.decide_
  ·split
   ·exact h.of (Z64 s)
   ·split
    ·exact h.of rfl
    ·exact h
 unfold Nd.tick0
 dsimp only
 split
 ·exact h
 ·cases s.v with
  | none=>exact hr
  | some ul=>
    obtain⟨u,l⟩:=ul
    show Mn (if u==s.dv then s.gather u l else (if s.decides then s.decide_ else if s.late then s.propose else if s.in_ then s.ask else (s,[]))).1
    split
    ·exact h.gather u l
    ·exact hr
theorem Mn.tick {s:Nd} (h:Mn s):Mn s.tick.1:=((h.of (t:={ s with clock:=s.clock+1 }) rfl).tick0).of rfl
theorem Mn.hasF {s:Nd} (h:Mn s) (P:Int) (k:Nat) (hk:k≤s.asked.length):Mn (hasF P s k).1:=by
 rw [(Z3o P s k hk).1]
 exact h.of rfl
theorem Mn.hasM {s:Nd} (h:Mn s) (m:Ms):Mn (s.hasM m).1:=by
 rw [Z3n]
 unfold Nd.hasG
 split
 ·split
  ·exact h.of rfl
  ·exact ((h.of (t:=s.has1 m) rfl).hasF _ _ (Nat.le_refl _)).of rfl
 ·exact h
theorem kM_srv (f:Int):∀ (l:List Ent) (s:Nd),kM (l.foldl (srvF f) s)=kM s
 | [],s=>rfl
 | e :: l,s=>(kM_srv f l (srvF f s e)).trans (by unfold srvF;split;exact kM_add s e;rfl)
theorem Mn.serve {s:Nd} (h:Mn s) (m:Ms):Mn (s.serve m).1:=by
 unfold Nd.serve
 split
 ·split
  ·exact h.hasM m
  ·exact h
 ·split
  ·exact h.of (kM_srv m.frm m.ents s)
  ·split
   ·exact h
   ·split
    ·show Mn (if _ then _ else _)
     split
     ·exact h.of rfl
     ·exact h
    ·exact h
theorem Mn.take {s:Nd} (m:Ms) (hd:m.frm=Z1y m.view s.n) (hn:m.frm≠s.id) (t:Nd) (e1:t.last=m.view) (e2:t.n=s.n) (e3:t.id=s.id):Mn t:=fun _ h=>by
 rw [e1,e2,e3] at h
 exact absurd (hd.trans h) hn
theorem Mn.hears {s:Nd} (h:Mn s) (m:Ms) (hn:m.frm≠s.id):Mn (s.hears m).1:=by
 unfold Nd.hears
 split
 ·unfold Nd.proposed;dsimp only;repeat' split
  all_goals first | exact h | exact h.of rfl
 ·split
  ·show Mn (if _ then _ else _)
   split
   ·exact h.of rfl
   ·exact h
  ·split
   ·cases s.v with
    | none=>exact h
    | some ul=>
      obtain⟨u,l⟩:=ul
      show Mn (if _ then _ else _)
      split
      ·exact h.of rfl
      ·exact h
   ·split
    ·unfold Nd.installed
     split
     ·exact h
     ·next hr=>
      have hd:m.frm=Z1y m.view s.n:=by
       have hr:s.right m=true:=by simpa using hr
       unfold Nd.right at hr
       simp only [Bool.and_eq_true,beq_iff_eq] at hr
       exact hr.1.1.1.1.1
      dsimp only
      split
      ·exact Mn.take m hd hn _ rfl rfl rfl
      ·split
       ·exact h.of rfl
       ·exact h
    ·split
     ·unfold Nd.append;dsimp only;split
      ·exact h
      ·cases Z6p s.L m.pos m.ents
       ·exact h.of rfl
       ·exact h.of rfl
     ·split
      ·show Mn (if _ then _ else _)
       split
       ·exact h.of rfl
       ·exact h
      ·split
       ·exact h.serve m
       ·exact h
theorem Mn.state {s:Nd} (h:Mn s) (m:Ms) (hn:m.frm≠s.id):Mn (s.state m).1:=by
 unfold Nd.state
 split
 ·exact h
 ·next hw=>
  have hd:m.frm=Z1y m.view s.n:=by
   have hw:Zie s m=true:=by simpa using hw
   unfold Zie at hw
   simp only [Bool.and_eq_true,beq_iff_eq] at hw
   exact hw.1.1.1.1.2
  exact Mn.take m hd hn _ rfl rfl rfl
theorem Mn.hear {s:Nd} (h:Mn s) (m:Ms) (hm:MayM m):Mn (s.hear m).1:=by
 unfold Nd.hear
 split
 ·exact h
 ·next hc=>
  have hn:m.frm≠s.id:=by
   simp only [Bool.or_eq_true,bne_iff_ne,ne_eq,decide_eq_true_eq,not_or,Decidable.not_not] at hc
   intro e
   exact hm.ft (e.trans hc.1.symm)
  show Mn ((s.heard_ m).hear0 m).1.settle
  have h1:Mn (s.heard_ m):=h.of rfl
  have h2:Mn ((s.heard_ m).hear0 m).1:=by
   unfold Nd.hear0
   split
   ·exact h1
   ·split
    ·exact h1.state m hn
    ·exact h1.hears m hn
  exact h2.of rfl
theorem Mn.cast {s:Nd} (h:Mn s) (o l:Int) (d:ByteArray):Mn (s.cast o l d).1:=by
 unfold Nd.cast;repeat' split
 all_goals first | exact h | exact h.of rfl
theorem decT_in {u n:Int} (h1:1≤u) (h3:3≤n) (h7:n≤7):1≤Z1y u n∧Z1y u n≤n:=by
 unfold Z1y
 rw [if_neg (by omega)]
 have h1:=Int.emod_nonneg (u-1) (show n≠0 by omega)
 have h2:=Int.emod_lt_of_pos (u-1) (show 0<n by omega)
 omega
section
variable {c:Nat} {s:Nd}
theorem Okg.tick0M (h:Okg c s) (hm:Mn s) (hc:c<400000):s.tick0.2.length≤7∧Z9r s.tick0.2:=by
 have hr:(if s.decides then s.decide_ else if s.late then s.propose else if s.in_ then s.ask else (s,[])).2.length≤7∧Z9r (if s.decides then s.decide_ else if s.late then s.propose else if s.in_ then s.ask else (s,[])).2:=by
  split
  ·exact h.decideM hc
  ·next hd=>
   split
   ·exact h.proposeM
   ·split
    ·next hi=>
     have hl:0<s.last:=by
      unfold Nd.in_ at hi
      simp only [Bool.and_eq_true,decide_eq_true_eq] at hi
      exact hi.1.1.2
     have hb:=decT_in (u:=s.last) (n:=s.n) (by omega) h.n3 h.n7
     have h7:=h.n7
     refine h.askM hc (fun e=>hd ?_) ⟨hb.1,by omega⟩
     unfold Nd.decides
     rw [hi,hm hl e];rfl
    ·exact⟨Nat.zero_le _,Z0r⟩
 unfold Nd.tick0
 dsimp only
 split
 ·unfold Nd.joins
  refine⟨?_,fun m hm=>?_⟩
  ·have h7:=h.n7
   refine Nat.le_trans (List.length_filterMap_le _ _) ?_
   rw [List.length_range]
   omega
  ·obtain⟨i,hi,he⟩:=List.mem_filterMap.1 hm
   have hi:=List.mem_range.1 hi
   have h7:=h.n7
   split at he
   ·cases he
   ·next hn=>
    injection he with he
    rw [← he]
    have:=h.b1;have:=h.b2
    exact { h.ms (k:=10) (too:=((i+1:Nat):Int)) (by omega) (by omega) (by omega) (by omega) hn with n1:=by show 0≤s.boot;omega,n2:=h.b2 }
 ·cases hv:s.v with
  | none=>exact hr
  | some ul=>
    obtain⟨u,l⟩:=ul
    show (if u==s.dv then s.gather u l else _).2.length≤7∧Z9r (if u==s.dv then s.gather u l else _).2
    split
    ·next he=>exact h.gatherM hv (by simpa using he)
    ·exact hr
theorem Okg.tickM (h:Okg c s) (hm:Mn s) (hc:c<399999):s.tick.2.length≤7∧Z9r s.tick.2:=h.clk.tick0M (hm.of rfl) (by omega)
theorem Zeq (h:Okg c s) (P:Int):∀ k,k≤s.asked.length→Z9r (hasF P s k).2.2
 | 0,_=>Z0r
 | k+1,hk=>by
   have ih:=Zeq h P k (by omega)
   rw [Z3e P s (by omega)]
   have e:=(Z3o P s k (by omega)).1
   have hq:=h.asq (s.asked[k]'(by omega)) (List.getElem_mem _)
   by_cases hc:P<(s.asked[k]'(by omega)).2.2
   ·rw [Z1w _ _ _ hc];exact ih
   ·by_cases hi:(s.asked[k]'(by omega)).1=(hasF P s k).1.id
    ·rw [Z2a _ _ _ hc hi];exact ih
    ·rw [Z2b _ _ _ hc hi]
     intro m hm
     rcases List.mem_append.1 hm with h1 | h1
     ·exact ih m h1
     ·rw [List.mem_singleton.1 h1]
      have ho:=Okg.hasF h P k (by omega)
      exact { ho.ms (k:=9) (by omega) (by omega) hq.1 hq.2.1 hi with v1:=ho.l0,v2:=ho.last2,n1:=hq.2.2.1,n2:=hq.2.2.2,o1:=ho.o0,o2:=ho.com2 }
theorem Okg.hasMM (h:Okg c s) (m:Ms):Z9r (s.hasM m).2:=by
 rw [Z3n]
 unfold Nd.hasG
 split
 ·split
  ·exact Z0r
  ·exact Zeq (h.has1 m) _ _ (Nat.le_refl _)
 ·exact Z0r
theorem Okg.serveM (h:Okg c s) (m:Ms) (hm:MayM m) (hn:m.frm≠s.id):Z9r (s.serve m).2:=by
 unfold Nd.serve
 split
 ·split
  ·exact h.hasMM m
  ·exact Z0r
 ·split
  ·exact Z0r
  ·split
   ·exact Z2k { h.ms (k:=11) (by omega) (by omega) hm.f1 hm.f2 hn with v1:=h.l0,v2:=h.last2,m1:=h.m0,m2:=by have:=h.m1;show s.mem≤127;omega,e1:=h.lg,e2:=h.lm,o1:=h.o0,o2:=h.com2,n1:=hm.n1,n2:=hm.n2 }
   ·split
    ·exact Z0r
    ·exact Z0r
theorem Okg.voteMM (h:Okg c s) (m:Ms) (hm:MayM m) (hn:m.frm≠s.id):MayM (s.voteM m):=
 { h.ms (k:=3) (by omega) (by omega) hm.f1 hm.f2 hn with v1:=hm.v1,v2:=hm.v2,l1:=h.l0,l2:=h.last2,e1:=h.lg,e2:=h.lm,o1:=h.o0,o2:=h.com2 }
theorem Okg.hearsM (h:Okg c s) (m:Ms) (hm:MayM m) (hn:m.frm≠s.id):Z9r (s.hears m).2:=by
 have hb:=hm.n1;have hb2:=hm.n2
 unfold Nd.hears
 split
 ·have hp:=h.proposed m hm
  unfold Nd.proposed at hp ⊢
  dsimp only at hp ⊢
  split
  ·exact Z0r
  ·next hx1=>
   rw [if_neg hx1] at hp
   split
   ·next hx2=>
    rw [if_pos hx2] at hp
    split
    ·exact Z0r
    ·next hx3=>
     rw [if_neg hx3] at hp
     exact Z2k (hp.voteMM m hm hn)
   ·split
    ·exact Z2k { h.ms (k:=2) (by omega) (by omega) hm.f1 hm.f2 hn with v1:=h.d0,v2:=h.d1 }
    ·exact Z2k (h.voteMM m hm hn)
 ·split
  ·exact Z0r
  ·split
   ·exact Z0r
   ·split
    ·have hp:=h.installed m hm
     unfold Nd.installed at hp ⊢
     dsimp only at hp ⊢
     split
     ·exact Z0r
     ·next hx1=>
      rw [if_neg hx1] at hp
      split
      ·next hx2=>
       rw [if_pos hx2] at hp
       exact Z2k (hp.ackMM hm.f1 hm.f2 hn (by omega) (by omega))
      ·next hx2=>
       rw [if_neg hx2] at hp
       split
       ·next hx3=>
        rw [if_pos hx3] at hp
        exact Z2k (hp.ackMM hm.f1 hm.f2 hn (by omega) (by omega))
       ·exact Z0r
    ·split
     ·have hp:=h.append m hm
      unfold Nd.append at hp ⊢
      dsimp only at hp ⊢
      split
      ·exact Z0r
      ·next hx1=>
       rw [if_neg hx1] at hp
       refine Z2k (hp.ackMM hm.f1 hm.f2 ?_ hm.n1 hm.n2)
       cases Z6p s.L m.pos m.ents<;>exact hn
     ·split
      ·exact Z0r
      ·split
       ·exact h.serveM m hm hn
       ·exact Z0r
theorem Okg.hearM (h:Okg c s) (m:Ms) (hm:MayM m) (hc:c<1000000):Z9r (s.hear m).2:=by
 have hb:=h.c0;have hb2:=h.c1
 unfold Nd.hear
 split
 ·exact Z0r
 ·next hc=>
  have hn:m.frm≠s.id:=by
   simp only [Bool.or_eq_true,bne_iff_ne,ne_eq,decide_eq_true_eq,not_or,Decidable.not_not] at hc
   intro e
   exact hm.ft (e.trans hc.1.symm)
  have h1:Okg c (s.heard_ m):=h.heard_ m
  show Z9r ((s.heard_ m).hear0 m).2
  unfold Nd.hear0
  split
  ·exact Z2k { h1.ms (k:=13) (by omega) (by omega) hm.f1 hm.f2 hn with n1:=hm.n1,n2:=hm.n2,c1:=hb,c2:=by show s.clock≤1099511627776;omega }
  ·split
   ·have hp:=h1.state m hm
    unfold Nd.state at hp ⊢
    dsimp only at hp ⊢
    split
    ·exact Z0r
    ·next hx1=>
     rw [if_neg hx1] at hp
     split
     ·exact Z2k (hp.ackMM hm.f1 hm.f2 hn (by omega) (by omega))
     ·exact Z0r
   ·exact h1.hearsM m hm hn
end
end
section
open Go.RowKit
def Sq (s:Nd):Prop:=s.pseq≤1099511627776
theorem sq_add (s:Nd) (e:Ent):(s.add e).pseq=s.pseq:=by
 unfold Nd.add;dsimp only;split<;>rfl
theorem Zdf:∀ (l:List Ent) (s:Nd),(l.foldl Nd.add s).pseq=s.pseq
 | [],s=>rfl
 | e :: l,s=>(Zdf l (s.add e)).trans (sq_add s e)
theorem Z65 (s:Nd):s.propose.1.pseq=s.pseq:=by
 unfold Nd.propose;dsimp only;split<;>rfl
theorem Zjh (s:Nd) (u:Int) (l:List Vt):(s.gather u l).1.pseq=s.pseq:=by
 unfold Nd.gather
 split
 ·rfl
 ·split
  ·exact Z65 s
  ·rfl
theorem Zji (s:Nd):s.decide_.1.pseq=s.pseq:=by
 unfold Nd.decide_
 dsimp only
 split
 ·exact (Z65 _).trans (Zdf _ _)
 ·exact Zdf _ _
theorem sq_tick0 (s:Nd):s.tick0.1.pseq=s.pseq:=by
 have hr:(if s.decides then s.decide_ else if s.late then s.propose else if s.in_ then s.ask else (s,[])).1.pseq=s.pseq:=by
  split
  ·exact Zji s
  ·split
   ·exact Z65 s
   ·split<;>rfl
 unfold Nd.tick0
 dsimp only
 split
 ·rfl
 ·cases s.v with
  | none=>exact hr
  | some ul=>
    obtain⟨u,l⟩:=ul
    show (if u==s.dv then s.gather u l else (if s.decides then s.decide_ else if s.late then s.propose else if s.in_ then s.ask else (s,[]))).1.pseq=s.pseq
    split
    ·exact Zjh s u l
    ·exact hr
theorem sq_srv (f:Int):∀ (l:List Ent) (s:Nd),(l.foldl (srvF f) s).pseq=s.pseq
 | [],s=>rfl
 | e :: l,s=>(sq_srv f l (srvF f s e)).trans (by unfold srvF;split;exact sq_add s e;rfl)
theorem sq_has (s:Nd) (m:Ms):(s.hasM m).1.pseq=s.pseq:=by
 rw [Z3n]
 unfold Nd.hasG
 split
 ·split
  ·rfl
  ·show (hasF _ (s.has1 m) (s.has1 m).asked.length).1.pseq=s.pseq
   rw [(Z3o _ (s.has1 m) _ (Nat.le_refl _)).1]
   rfl
 ·rfl
theorem sq_serve (s:Nd) (m:Ms):(s.serve m).1.pseq=s.pseq:=by
 unfold Nd.serve
 split
 ·split
  ·exact sq_has s m
  ·rfl
 ·split
  ·exact sq_srv m.frm m.ents s
  ·split
   ·rfl
   ·split
    ·show (if _ then _ else _:Nd).pseq=s.pseq
     split<;>rfl
    ·rfl
theorem sq_hears (s:Nd) (m:Ms):(s.hears m).1.pseq=s.pseq:=by
 unfold Nd.hears
 split
 ·unfold Nd.proposed;dsimp only;repeat' split
  all_goals rfl
 ·split
  ·show (if _ then _ else _:Nd).pseq=s.pseq
   split<;>rfl
  ·split
   ·cases s.v with
    | none=>rfl
    | some ul=>
      obtain⟨u,l⟩:=ul
      show (if _ then _ else _:Nd).pseq=s.pseq
      split<;>rfl
   ·split
    ·unfold Nd.installed;dsimp only;repeat' split
     all_goals rfl
    ·split
     ·unfold Nd.append;dsimp only;split
      ·rfl
      ·cases Z6p s.L m.pos m.ents<;>rfl
     ·split
      ·show (if _ then _ else _:Nd).pseq=s.pseq
       split<;>rfl
      ·split
       ·exact sq_serve s m
       ·rfl
theorem Sq.tick {s:Nd} (h:Sq s):Sq s.tick.1:=by
 have e:s.tick.1.pseq=s.pseq:=sq_tick0 ({ s with clock:=s.clock+1 })
 unfold Sq;rw [e];exact h
theorem Sq.hear {s:Nd} (h:Sq s) (m:Ms):Sq (s.hear m).1:=by
 have e:(s.hear m).1.pseq=s.pseq:=by
  unfold Nd.hear
  split
  ·rfl
  ·show ((s.heard_ m).hear0 m).1.pseq=s.pseq
   unfold Nd.hear0
   split
   ·rfl
   ·split
    ·unfold Nd.state;dsimp only;split<;>rfl
    ·exact sq_hears (s.heard_ m) m
 unfold Sq;rw [e];exact h
theorem mayE_seq {e:Ent} (h:Z2l e=true):e.seq≤1099511627776:=by
 unfold Z2l at h
 simp only [Bool.and_eq_true,decide_eq_true_eq] at h
 omega
theorem Sq.cast {s:Nd} (h:Sq s) (o l:Int) (d:ByteArray):Sq (s.cast o l d).1:=by
 unfold Nd.cast
 split
 ·exact h
 ·split
  ·exact h
  ·next hm=>
   split
   ·exact h
   ·have hm:Z2l (s.castE o l d)=true:=by simpa using hm
    exact mayE_seq hm
theorem PfT.cast {s:Nd} (h:PfT s) (o l:Int) (d:ByteArray):PfT (s.cast o l d).1:=by
 unfold Nd.cast;repeat' split
 all_goals first | exact h | exact h.of rfl rfl
structure Full (c:Nat) (s:Nd):Prop where
 ok:Okg c s
 nov:Nov s
 pt:PfT s
 mn:Mn s
 sq:Sq s
theorem Full.up {c d:Nat} {s:Nd} (h:Full c s) (hd:c≤d):Full d s:=⟨h.ok.up hd,h.nov,h.pt,h.mn,h.sq⟩
theorem Full.tick {c:Nat} {s:Nd} (h:Full c s) (hc:c<400000):Full (c+3) s.tick.1:=⟨h.ok.tick (by omega),h.nov.tick,h.pt.tick h.ok.c0,h.mn.tick,h.sq.tick⟩
theorem Full.hear {c:Nat} {s:Nd} (h:Full c s) (m:Ms) (hm:MayM m):Full (c+1) (s.hear m).1:=⟨h.ok.hear m hm,h.nov.hear m,h.pt.hear h.ok.c0 m,h.mn.hear m hm,h.sq.hear m⟩
theorem Full.cast {c:Nat} {s:Nd} (h:Full c s) (o l:Int) (d:ByteArray):Full c (s.cast o l d).1:=⟨h.ok.cast o l d,h.nov.cast o l d,h.pt.cast o l d,h.mn.cast o l d,h.sq.cast o l d⟩
end
section
open Go.RowKit
def Zbc (s:Nd) (num:Int):Ms:=⟨6,2,1,1,1,0,0,s.L.length,[],0,num,0,false⟩
def Zbz (s:Nd) (m:Ms):Nd:=if m.kind==5||m.kind==4 then (s.hear (Zbc s m.num)).1 else s
theorem Z5d {c:Nat} {s:Nd} (h:Okg c s) {num:Int} (hn:0≤num∧num≤1099511627776):MayM (Zbc s num):=by
 have:=h.lg
 exact⟨(by show (1:Int)≤6;decide),(by show (6:Int)≤13;decide),(by show (1:Int)≤2;decide),(by show (2:Int)≤7;decide),(by show (1:Int)≤1;decide),(by show (1:Int)≤7;decide),(by show (2:Int)≠1;decide),(by show (1:Int)≤1;decide),(by show (1:Int)≤1099511627776;decide),(by show (0:Int)≤1;decide),(by show (1:Int)≤1099511627776;decide),
  (by show (0:Int)≤0;decide),(by show (0:Int)≤1099511627776;decide),hn.1,hn.2,(by show (0:Int)≤0;decide),(by show (0:Int)≤1099511627776;decide),(by show (0:Int)≤0;decide),(by show (0:Int)≤127;decide),(by show (0:Int)≤(s.L.length:Int);omega),(by show (s.L.length:Int)≤60;omega),(by show (0:Int)≤0;decide),(by show (0:Int)≤60;decide),(Nat.zero_le _),fun e he=>by cases he⟩
theorem Okg.ack {c:Nat} {s:Nd} (h:Okg c s) {m:Ms} (hn:0≤m.num∧m.num≤1099511627776):Okg (c+1) (Zbz s m):=by
 unfold Zbz
 split
 ·exact h.hear _ (Z5d h hn)
 ·exact h.up (Nat.le_succ c)
theorem Mn.ack {c:Nat} {s:Nd} (h:Mn s) (ho:Okg c s) {m:Ms} (hn:0≤m.num∧m.num≤1099511627776):Mn (Zbz s m):=by
 unfold Zbz
 split
 ·exact h.hear _ (Z5d ho hn)
 ·exact h
theorem Nov.ack {s:Nd} (h:Nov s) (m:Ms):Nov (Zbz s m):=by
 unfold Zbz
 split
 ·exact h.hear _
 ·exact h
theorem PfT.ack {s:Nd} (h:PfT s) (hc:0≤s.clock) (m:Ms):PfT (Zbz s m):=by
 unfold Zbz
 split
 ·exact h.hear hc _
 ·exact h
theorem Zbd (s:Nd):∃ outs,s.settle.td=s.td++outs:=Zem s.td s.L s.com s.clock
end
section
open Go.RowKit
theorem td_add (s:Nd) (e:Ent):(s.add e).td=s.td:=by
 unfold Nd.add;dsimp only;split<;>rfl
theorem Zdg:∀ (l:List Ent) (s:Nd),(l.foldl Nd.add s).td=s.td
 | [],s=>rfl
 | e :: l,s=>(Zdg l (s.add e)).trans (td_add s e)
theorem Z66 (s:Nd):s.propose.1.td=s.td:=by
 unfold Nd.propose;dsimp only;split<;>rfl
theorem Zjj (s:Nd) (u:Int) (l:List Vt):(s.gather u l).1.td=s.td:=by
 unfold Nd.gather
 split
 ·rfl
 ·split
  ·exact Z66 s
  ·rfl
theorem Zjk (s:Nd):s.decide_.1.td=s.td:=by
 unfold Nd.decide_
 dsimp only
 split
 ·exact (Z66 _).trans (Zdg _ _)
 ·exact Zdg _ _
theorem td_tick0 (s:Nd):s.tick0.1.td=s.td:=by
 have hr:(if s.decides then s.decide_ else if s.late then s.propose else if s.in_ then s.ask else (s,[])).1.td=s.td:=by
  split
  ·exact Zjk s
  ·split
   ·exact Z66 s
   ·split<;>rfl
 unfold Nd.tick0
 dsimp only
 split
 ·rfl
 ·cases s.v with
  | none=>exact hr
  | some ul=>
    obtain⟨u,l⟩:=ul
    show (if u==s.dv then s.gather u l else (if s.decides then s.decide_ else if s.late then s.propose else if s.in_ then s.ask else (s,[]))).1.td=s.td
    split
    ·exact Zjj s u l
    ·exact hr
theorem td_srv (f:Int):∀ (l:List Ent) (s:Nd),(l.foldl (srvF f) s).td=s.td
 | [],s=>rfl
 | e :: l,s=>(td_srv f l (srvF f s e)).trans (by unfold srvF;split;exact td_add s e;rfl)
theorem td_has (s:Nd) (m:Ms):(s.hasM m).1.td=s.td:=by
 rw [Z3n]
 unfold Nd.hasG
 split
 ·split
  ·rfl
  ·show (hasF _ (s.has1 m) (s.has1 m).asked.length).1.td=s.td
   rw [(Z3o _ (s.has1 m) _ (Nat.le_refl _)).1]
   rfl
 ·rfl
theorem td_serve (s:Nd) (m:Ms):(s.serve m).1.td=s.td:=by
 unfold Nd.serve
 split
 ·split
  ·exact td_has s m
  ·rfl
 ·split
  ·exact td_srv m.frm m.ents s
  ·split
   ·rfl
   ·split
    ·show (if _ then _ else _:Nd).td=s.td
     split<;>rfl
    ·rfl
theorem td_hears (s:Nd) (m:Ms):(s.hears m).1.td=s.td:=by
 unfold Nd.hears
 split
 ·unfold Nd.proposed;dsimp only;repeat' split
  all_goals rfl
 ·split
  ·show (if _ then _ else _:Nd).td=s.td
   split<;>rfl
  ·split
   ·cases s.v with
    | none=>rfl
    | some ul=>
      obtain⟨u,l⟩:=ul
      show (if _ then _ else _:Nd).td=s.td
      split<;>rfl
   ·split
    ·unfold Nd.installed;dsimp only;repeat' split
     all_goals rfl
    ·split
     ·unfold Nd.append;dsimp only;split
      ·rfl
      ·cases Z6p s.L m.pos m.ents<;>rfl
     ·split
      ·show (if _ then _ else _:Nd).td=s.td
       split<;>rfl
      ·split
       ·exact td_serve s m
       ·rfl
def TdLe (s t:Nd):Prop:=∃ outs,t.td=s.td++outs
theorem TdLe.refl (s:Nd):TdLe s s:=⟨[],(List.append_nil _).symm⟩
theorem TdLe.trans {s t u:Nd} (h:TdLe s t) (k:TdLe t u):TdLe s u:=by
 obtain⟨a,ha⟩:=h
 obtain⟨b,hb⟩:=k
 exact⟨a++b,by rw [hb,ha,List.append_assoc]⟩
theorem TdLe.len {s t:Nd} (h:TdLe s t):s.td.length≤t.td.length:=by
 obtain⟨a,ha⟩:=h
 rw [ha,List.length_append];omega
theorem TdLe.of {s t:Nd} (h:t.td=s.td):TdLe s t:=⟨[],by rw [h,List.append_nil]⟩
theorem TdLe.tick (s:Nd):TdLe s s.tick.1:=by
 obtain⟨outs,h⟩:=Zbd ({ s with clock:=s.clock+1 }:Nd).tick0.1
 exact⟨outs,h.trans (by rw [td_tick0])⟩
theorem TdLe.hear (s:Nd) (m:Ms):TdLe s (s.hear m).1:=by
 unfold Nd.hear
 split
 ·exact .refl s
 ·show TdLe s ((s.heard_ m).hear0 m).1.settle
  obtain⟨outs,h⟩:=Zbd ((s.heard_ m).hear0 m).1
  refine⟨outs,h.trans ?_⟩
  have e:((s.heard_ m).hear0 m).1.td=s.td:=by
   unfold Nd.hear0
   split
   ·rfl
   ·split
    ·unfold Nd.state;dsimp only;split<;>rfl
    ·exact td_hears (s.heard_ m) m
  rw [e]
theorem td_cast (s:Nd) (o l:Int) (d:ByteArray):(s.cast o l d).1.td=s.td:=by
 unfold Nd.cast;repeat' split
 all_goals rfl
theorem TdLe.cast (s:Nd) (o l:Int) (d:ByteArray):TdLe s (s.cast o l d).1:=.of (td_cast s o l d)
theorem TdLe.ack (s:Nd) (m:Ms):TdLe s (Zbz s m):=by
 unfold Zbz
 split
 ·exact .hear s _
 ·exact .refl s
end
section
open Go.RowKit
def Z44 (e:Ent) (l:List Ent):Int:=if !Z2l e then 1 else if 4≤l.length then 9 else 0
theorem Z0x {n:Nat} {w w1:World} (h:Below n w w1) {rb:Nat} (hz:n≤rb) (o:Nat) (v:Value):Below n w (w1.setCell ⟨rb,o,none⟩ v):=h.setCell hz v
theorem pnO.belowG {w w':World} {F:Nat→Prop} {b:Nat} {frm boot seq:Int} {l:List Ent} (h:pnO w F b frm boot seq l) (hB:Below w.heap.size w w'):pnO w' (Gr F w w') b frm boot seq l∧Chg F w w':=
 ⟨(h.chg (G:=fun _=>False) (.of_below hB) (fun _ _ h=>h)).mono fun _ f=>.inl f, .of_below hB⟩
theorem Zjl (b:Nat) (frm boot seq o lv:Int) (d:ByteArray) (l:List Ent) (F:Nat→Prop) (w:World) (h:pnO w F b frm boot seq l) (hs:0≤seq∧seq≤1099511627776) (hl:l.length≤1000) :
  Calls Tryz.prog 143 #[Z09 b, .int .i64 o, .int .i64 lv, .string d] w fun r w'=>(∃ e:Ent,r=.returned (.tuple #[e.val, .int .i64 (Z44 ⟨frm,boot,seq+1,o,lv,0,d⟩ l)])) ∧
   pnO w' (Gr F w w') b frm boot (if Z44 ⟨frm,boot,seq+1,o,lv,0,d⟩ l=0 then seq+1 else seq) (if Z44 ⟨frm,boot,seq+1,o,lv,0,d⟩ l=0 then l++[⟨frm,boot,seq+1,o,lv,0,d⟩] else l)∧Chg F w w':=by
 obtain⟨i0,hi,m4,n4,o4⟩:=info_parts Z8t
 replace hi:=hd_ hi
 obtain⟨E,hE⟩:∃ E:Ent,E=⟨frm,boot,seq+1,o,lv,0,d⟩:=⟨_,rfl⟩
 rw [← hE]
 obtain⟨er,w1⟩:∃ er,er=Z44 E l:=⟨_,rfl⟩
 rw [← w1]
 obtain⟨sq,s1⟩:∃ x,x=if er=0 then seq+1 else seq:=⟨_,rfl⟩
 obtain⟨L',m1⟩:∃ x,x=if er=0 then l++[E] else l:=⟨_,rfl⟩
 rw [← s1,← m1]
 replace w1:=hd_ w1;replace s1:=hd_ s1;replace m1:=hd_ m1
 have hp:=hd_ h
 obtain⟨o2,v,hb,ho,hv⟩:=h
 obtain⟨W0,n1⟩:∃ W,W=w.alloc (.cells #[.int .i64 0, .int .i64 0, .int .i64 0, .int .i64 0, .int .i64 0, .int .i64 0, .string ⟨#[]⟩] 134):=⟨_,rfl⟩
 have g0:Below w.heap.size w W0:=n1 ▸ (Below.refl _ _).alloc (Nat.le_refl _) _
 have i1:=Z02 hb g0
 have i3:=Z0z ho g0
 have r4:=Z04 i1
 have c0:W0.cell? ⟨b,0,none⟩=some (.int .i64 frm):=Z00 i1 0
 have c1:W0.cell? ⟨b,1,none⟩=some (.int .i64 boot):=Z00 i1 1
 have c2:W0.cell? ⟨b,2,none⟩=some (.int .i64 seq):=Z00 i1 2
 replace hb:=hd_ hb;replace i1:=hd_ i1;replace ho:=hd_ ho;replace i3:=hd_ i3;replace hv:=hd_ hv;replace g0:=hd_ g0;replace hE:=hd_ hE
 go_enter Tryz.func143,Tryz.ntmps143
 go_upto_region 3 with (fail)
 rw [← n1]
 obtain⟨rb,m0⟩:∃ rb,rb=w.heap.size:=⟨_,rfl⟩
 rw [← m0]
 replace n1:=hd_ n1;replace m0:=hd_ m0
 go_region
 obtain⟨W1,t1⟩:∃ W,W=(W0.alloc (.cells #[.int .i64 frm, .int .i64 boot, .int .i64 (seq+1), .int .i64 o, .int .i64 lv, .int .i64 0, .string d] 134)).drew:=⟨_,rfl⟩
 rw [← t1]
 obtain⟨xb,e1⟩:∃ xb,xb=W0.heap.size:=⟨_,rfl⟩
 rw [← e1]
 have n0:W1.heap[xb]?=some (.cells #[.int .i64 frm, .int .i64 boot, .int .i64 (seq+1), .int .i64 o, .int .i64 lv, .int .i64 0, .string d] 134 (0,0)):=t1 ▸ e1 ▸ Z0a _ _
 have f1:Below W0.heap.size W0 W1:=t1 ▸ ((Below.refl _ _).alloc (Nat.le_refl _) _).drew
 have l4:cellsE W1 xb 0 E:=by
  have q0:=Z00 n0 0
  have q1:=Z00 n0 1
  have q2:=Z00 n0 2
  have q3:=Z00 n0 3
  have q4:=Z00 n0 4
  have q5:=Z00 n0 5
  have q6:=Z00 n0 6
  rw [hE.out]
  exact⟨q0,q1,q2,q3,q4,q5,q6⟩
 have g2:=Z02 i1.out f1
 have j3:=Z0z i3.out f1
 obtain⟨d0,d1,d2,d3,d4,d5,d6⟩:=l4
 rw [Nat.zero_add] at d1 d2 d3 d4 d5 d6
 have b5:=Z04 n0
 have s4:=Z04 g2
 have hM:=hd_ (fun w=>Z4b E w)
 clear c0 c1 c2 r4;replace t1:=hd_ t1;replace e1:=hd_ e1;replace n0:=hd_ n0;replace g2:=hd_ g2;replace j3:=hd_ j3;replace f1:=hd_ f1
 have k2:¬ v.ownBlock=some b:=by
  intro e
  obtain⟨h1,h2⟩:=ho.out
  rcases h2 with ⟨h3,_⟩ | ⟨g,c,c4,h3,_,h4,_⟩
  ·rw [h3] at e;cases e
  ·rw [h3] at e;injection e with e;subst e
   have:=hb.out
   rw [h4] at this;injection this with this;injection this with _ h5;cases h5
 have t3:=hd_ (show ∀ k,v.ownBlock=some k→k<w.heap.size from fun k hk=>(ho.out.lt k hk).2)
 obtain⟨av,cv,b1⟩:=ho.out.rd.len
 have e0:¬ v.ownBlock=some xb:=fun e=>by have:=t3.out xb e;have:=g0.out.size;have:=e1.out;omega
 have a2:¬ v.ownBlock=some rb:=fun e=>by have:=t3.out rb e;have:=m0.out;omega
 have l3:W1.heap[rb]?=some (.cells #[.int .i64 0, .int .i64 0, .int .i64 0, .int .i64 0, .int .i64 0, .int .i64 0, .string ⟨#[]⟩] 134 (0,0)):=Z02 (n1.out ▸ m0.out ▸ Z0a _ _) f1.out
 have v2:b≠rb:=by have:=Z04 hb.out;have:=m0.out;omega
 have hxr:xb≠rb:=by have:=g0.out.size;have:=e1.out;have:=m0.out;have:=Z04 (n1.out ▸ m0.out ▸ Z0a _ _:W0.heap[rb]?=_);omega
 replace l3:=hd_ l3;go_wp2_with fail
 refine (hM.out _).mono ?_
 rintro r w2 ⟨rfl,k0⟩
 have a0:=Z02 l3.out k0
 have l0:=Z02 g2.out k0
 have k1:=Z02 n0.out k0
 have j1:=Z0z j3.out k0
 have s0:Below w.heap.size w w2:=(g0.out.trans (f1.out.mono g0.out.size)).trans (k0.mono (Nat.le_trans g0.out.size f1.out.size))
 clear d0 d1 d2 d3 d4 d5 d6 b5 s4 hM
 have z0:=Z00 a0 0
 have z1:=Z00 a0 1
 have z2:=Z00 a0 2
 have z3:=Z00 a0 3
 have z4:=Z00 a0 4
 have z5:=Z00 a0 5
 have z6:=Z00 a0 6
 have y0:=Z03 a0 0
 have y1:=Z03 a0 1
 have y2:=Z03 a0 2
 have y3:=Z03 a0 3
 have y4:=Z03 a0 4
 have y5:=Z03 a0 5
 have y6:=Z03 a0 6
 have v4:=Z04 a0
 have t4:=Z04 l0
 cases hm:Z2l E
 ·have ea:er=1:=w1.out.trans (by unfold Z44;rw [hm];rfl)
  replace a0:=hd_ a0;replace l0:=hd_ l0;replace k1:=hd_ k1;replace j1:=hd_ j1;replace s0:=hd_ s0;replace ea:=hd_ ea;replace hm:=hd_ hm;go_wp2
  refine bodyPost_ret (v:=.tuple #[.agg #[.int .i64 0, .int .i64 0, .int .i64 0, .int .i64 0, .int .i64 0, .int .i64 0, .string ⟨#[]⟩], .int .i64 1]) (by simp [results,Tryz.results143,go_sem, *]) rfl ?_
  have hz:w.heap.size≤rb:=Nat.le_of_eq m0.out.symm
  have t2:=Z0x (Z0x (Z0x (Z0x (Z0x (Z0x (Z0x s0.out hz 0 (.int .i64 0)) hz 1 (.int .i64 0)) hz 2 (.int .i64 0)) hz 3 (.int .i64 0)) hz 4 (.int .i64 0)) hz 5 (.int .i64 0)) hz 6 (.string ⟨#[]⟩)
  refine⟨⟨⟨0,0,0,0,0,0,⟨#[]⟩⟩,by rw [ea.out]⟩,?_⟩
  rw [s1.out,m1.out,ea.out]
  exact hp.out.belowG t2
 ·have c3:w2.cell? ⟨b,3,none⟩=some (.slice av l.length cv):=b1 ▸ Z00 l0 3
  have l1:=w1.out
  unfold Z44 at l1
  rw [hm] at l1
  by_cases h4:4≤l.length
  ·have ea:er=9:=l1.trans (by simp [h4])
   have o3:decide ((4:Int)≤(l.length:Int))=true:=decide_eq_true (by omega)
   clear l1;replace a0:=hd_ a0;replace l0:=hd_ l0;replace k1:=hd_ k1;replace j1:=hd_ j1;replace s0:=hd_ s0;replace ea:=hd_ ea;replace hm:=hd_ hm;go_wp2
   refine bodyPost_ret (v:=.tuple #[.agg #[.int .i64 0, .int .i64 0, .int .i64 0, .int .i64 0, .int .i64 0, .int .i64 0, .string ⟨#[]⟩], .int .i64 9]) (by simp [results,Tryz.results143,go_sem, *]) rfl ?_
   have hz:w.heap.size≤rb:=Nat.le_of_eq m0.out.symm
   have t2:=Z0x (Z0x (Z0x (Z0x (Z0x (Z0x (Z0x s0.out hz 0 (.int .i64 0)) hz 1 (.int .i64 0)) hz 2 (.int .i64 0)) hz 3 (.int .i64 0)) hz 4 (.int .i64 0)) hz 5 (.int .i64 0)) hz 6 (.string ⟨#[]⟩)
   refine⟨⟨⟨0,0,0,0,0,0,⟨#[]⟩⟩,by rw [ea.out]⟩,?_⟩
   rw [s1.out,m1.out,ea.out]
   exact hp.out.belowG t2
  ·have ea:er=0:=l1.trans (by simp [h4])
   have o3:decide ((4:Int)≤(l.length:Int))=false:=decide_eq_false (by omega)
   have c2:w2.cell? ⟨b,2,none⟩=some (.int .i64 seq):=Z00 l0 2
   have f2:=Z03 l0 2
   obtain⟨W3,t0⟩:∃ W3,W3=w2.setCell ⟨b,2,none⟩ (.int .i64 (seq+1)):=⟨_,rfl⟩
   have r2:W3.heap[b]?=some (.cells #[.int .i64 frm, .int .i64 boot, .int .i64 (seq+1),v] 196 (0,0)):=t0 ▸ Z0d l0
   have i2:Chg F w W3:=t0 ▸ Z06 (.of_below s0) o2
   have n2:W3.heap[xb]?=_:=t0 ▸ Z0u k1 (by have:=Z04 hb.out;have:=g0.out.size;have:=e1.out;omega)
   have m3:W3.heap[rb]?=_:=t0 ▸ Z0u a0 v2.symm
   clear l1;replace a0:=hd_ a0;replace l0:=hd_ l0;replace k1:=hd_ k1;replace j1:=hd_ j1;replace s0:=hd_ s0;replace ea:=hd_ ea;replace hm:=hd_ hm;replace r2:=hd_ r2;replace i2:=hd_ i2;replace n2:=hd_ n2;replace m3:=hd_ m3
   have l2:ownE W3 0 134 v l:=j1.out.chg (F:=fun k=>k=b) (t0 ▸ Z06 (Chg.refl _ _) rfl) fun k hk e=>k2 (e ▸ hk)
   have b2:W3.heap[xb]?=some (.cells #[.int .i64 frm, .int .i64 boot, .int .i64 (seq+1), .int .i64 o, .int .i64 lv, .int .i64 0, .string d] 134 (0,0)):=n2.out
   replace l2:=hd_ l2;go_upto_region 9 with (fail)
   rw [← t0]
   replace t0:=hd_ t0;clear c3 c2 f2 z0 z1 z2 z3 z4 z5 z6 y0 y1 y2 y3 y4 y5 y6 v4 t4 o3
   refine Z05 (fun c=>v.ownBlock=some c) (.q 0 (.q 1 (.q 2 (.q 3 (.q 4 (.q 5 (.l 6 (.l 7 (.q 8 (.q 9 (.cut (.l 10 .fin)))))))))))) (by kernel_rfl) (by kernel_rfl) ?_
   intro w4 hh v1
   have o1:w4.heap[b]?=some (.cells #[.int .i64 frm, .int .i64 boot, .int .i64 (seq+1),v] 196 (0,0)):=by rw [hh];exact r2.out
   have o0:w4.heap[xb]?=some (.cells #[.int .i64 frm, .int .i64 boot, .int .i64 (seq+1), .int .i64 o, .int .i64 lv, .int .i64 0, .string d] 134 (0,0)):=by rw [hh];exact b2
   have u3:=Z01 (F:=fun c=>v.ownBlock=some c) (b:=w4) k2 (show w4.cell? ⟨b,3,none⟩=some (.slice av l.length cv) from b1 ▸ Z00 o1 3)
   have p0:=Z01 (F:=fun c=>v.ownBlock=some c) (b:=w4) e0 (show w4.cell? ⟨xb,0,none⟩=some (.int .i64 frm) from Z00 o0 0)
   have p1:=Z01 (F:=fun c=>v.ownBlock=some c) (b:=w4) e0 (show w4.cell? ⟨xb,1,none⟩=some (.int .i64 boot) from Z00 o0 1)
   have p2:=Z01 (F:=fun c=>v.ownBlock=some c) (b:=w4) e0 (show w4.cell? ⟨xb,2,none⟩=some (.int .i64 (seq+1)) from Z00 o0 2)
   have p3:=Z01 (F:=fun c=>v.ownBlock=some c) (b:=w4) e0 (show w4.cell? ⟨xb,3,none⟩=some (.int .i64 o) from Z00 o0 3)
   have p4:=Z01 (F:=fun c=>v.ownBlock=some c) (b:=w4) e0 (show w4.cell? ⟨xb,4,none⟩=some (.int .i64 lv) from Z00 o0 4)
   have p5:=Z01 (F:=fun c=>v.ownBlock=some c) (b:=w4) e0 (show w4.cell? ⟨xb,5,none⟩=some (.int .i64 0) from Z00 o0 5)
   have p6:=Z01 (F:=fun c=>v.ownBlock=some c) (b:=w4) e0 (show w4.cell? ⟨xb,6,none⟩=some (.string d) from Z00 o0 6)
   have j4:=hd_ (Z0z l2.out (hh ▸ v1:Below W3.heap.size W3 w4))
   replace hh:=hd_ hh;replace v1:=hd_ v1;replace o1:=hd_ o1;replace o0:=hd_ o0;clear l2 b2 n2
   repeat (refine Z0n rfl ?_;go_big_quiet_step (fail);refine wpQuiet_nil ?_)
   clear u3 p0 p1 p2 p3 p4 p5 p6;refine Z0j rfl (by kernel_rfl) ?_;intro K1 hK;go_simp
   obtain⟨W5,v0⟩:∃ W5,W5=w4.alloc (.cells #[.int .i64 frm, .int .i64 boot, .int .i64 (seq+1), .int .i64 o, .int .i64 lv, .int .i64 0, .string d] 134):=⟨_,rfl⟩
   have e2:W5.heap[w4.heap.size]?=some (.cells #[.int .i64 frm, .int .i64 boot, .int .i64 (seq+1), .int .i64 o, .int .i64 lv, .int .i64 0, .string d] 134 (0,0)):=v0 ▸ Z0a _ _
   have a3:Chg (fun c=>v.ownBlock=some c) w4 W5:=v0 ▸ Z1a (Chg.refl _ _)
   have g1:Below w4.heap.size w4 W5:=v0 ▸ (Below.refl _ _).alloc (Nat.le_refl _) _
   have v3:=hd_ (Z0z j4.out g1)
   have e4:=hd_ (Z02 o1.out g1)
   obtain⟨nc,j2⟩:∃ nc,nc=w4.heap.size:=⟨_,rfl⟩
   rw [← v0,← j2]
   rw [← j2] at e2
   replace e2:=hd_ e2;replace v0:=hd_ v0;replace j2:=hd_ j2
   refine hK _ _ a3 ?_
   clear hK K1
   have f4:=hi.out
   refine Z0j rfl (by kernel_rfl) ?_;intro K1 hK
   refine Z6e _ (.tmp 55) (.tmp 57) 35 rfl 0 134 i0 (Ent.val ⟨0,0,0,0,0,0,ByteArray.empty⟩) 7 64 Tryz.underlying35 f4 m4 n4 o4 rfl (by decide) (.slice av l.length cv) l.length (Z3i l) rfl (b1 ▸ v3.out) (.slice (some ⟨nc,0,none⟩) 1 1) 1 _ rfl (Z5y e2.out rfl) ?c1 (by unfold maxLen;omega) (by omega) (Nat.zero_le _) ?_
   case c1=>
    intro u hu
    simp only [List.mem_cons,List.not_mem_nil,or_false] at hu
    rcases hu with rfl | rfl | rfl | rfl | rfl | rfl | rfl<;>rfl
   intro v6 w6 f0 s3 j0
   have a1:Chg (fun c=>v.ownBlock=some c) w4 w6:=Z10 a3 s3 fun k hk=>.inl (b1 ▸ hk)
   have r1:=Z0g o1.out a1 k2
   have i4:=Z04 r1
   have f6:=Z03 r1 3
   have q6:w6.cell? ⟨b,3,none⟩=some (.slice av l.length cv):=b1 ▸ Z00 r1 3
   obtain⟨ad6,b4,n3⟩:∃ ad c,v6=.slice ad (l.length+1) c:=by
    rcases f0.2 with ⟨h,h0⟩ | ⟨g,cap,c4,h,_⟩
    ·omega
    ·exact⟨_,_,h⟩
   replace r1:=hd_ r1;replace f0:=hd_ f0;replace j0:=hd_ j0;clear s3 v3 e4 a3 g1 e2;go_simp
   refine hK _ _ a1 ?_
   clear hK K1;replace n3:=hd_ n3;refine Z0n rfl ?_;go_big_quiet_step (fail);refine wpQuiet_nil ?_;refine Z0n rfl ?_;go_big_quiet_step (fail);refine wpQuiet_nil ?_;refine Z0h Z1j ?_;refine Z0j rfl (by kernel_rfl) ?_;intro K1 hK;go_simp
   refine hK _ _ (Z06 (Chg.refl _ _) trivial) ?_
   clear hK K1;refine Z0c ?_;replace a1:=hd_ a1
   have m2:w4.heap[rb]?=some (.cells #[.int .i64 0, .int .i64 0, .int .i64 0, .int .i64 0, .int .i64 0, .int .i64 0, .string ⟨#[]⟩] 134 (0,0)):=by rw [hh.out];exact m3.out
   have a4:W5.heap.size=w4.heap.size+1:=by rw [v0.out];simp
   have k4:=a1.out.size
   have a5:=Z04 m2
   obtain⟨W7,w0⟩:∃ W7,W7=w6.setCell ⟨b,3,none⟩ v6:=⟨_,rfl⟩
   rw [← n3.out,← w0]
   have b0:W7.heap[rb]?=some (.cells #[.int .i64 0, .int .i64 0, .int .i64 0, .int .i64 0, .int .i64 0, .int .i64 0, .string ⟨#[]⟩] 134 (0,0)):=w0 ▸ Z0u (Z0g m2 a1.out a2) v2.symm
   have r0:W7.heap[xb]?=some (.cells #[.int .i64 frm, .int .i64 boot, .int .i64 (seq+1), .int .i64 o, .int .i64 lv, .int .i64 0, .string d] 134 (0,0)):=w0 ▸ Z0u (Z0g o0.out a1.out e0) (by have:=Z04 hb.out;have:=g0.out.size;have:=e1.out;omega)
   have s2:W7.heap[b]?=some (.cells #[.int .i64 frm, .int .i64 boot, .int .i64 (seq+1),v6] 196 (0,0)):=w0 ▸ Z0d r1.out
   have f3:¬ v6.ownBlock=some b:=fun e=>by
    rcases j0.out with h | h
    ·exact k2 (by rw [b1,← h];exact e)
    ·rw [h] at e;injection e with e;have:=Z04 o1.out;omega
   have g3:¬ v6.ownBlock=some rb:=fun e=>by
    rcases j0.out with h | h
    ·exact a2 (by rw [b1,← h];exact e)
    ·rw [h] at e;injection e with e;omega
   have k3:ownE W7 0 134 v6 (l++[E]):=by
    have h1:ownE w6 0 134 v6 (l++[E]):=by
     rw [ownE,List.length_append,Z39]
     have:=f0.out
     rw [hE.out]
     exact this
    exact w0 ▸ h1.chg (F:=fun k=>k=b) (Z06 (Chg.refl _ _) rfl) fun k hk e=>f3 (e ▸ hk)
   have b3:Chg F w W7:=w0 ▸ Z06 (((i2.out.on (hh.out ▸ v1.out:Below W3.heap.size W3 w4)).more a1.out fun i e=>.inl (hv.out i e))) o2
   have x0:=Z00 r0 0
   have x1:=Z00 r0 1
   have x2:=Z00 r0 2
   have x3:=Z00 r0 3
   have x4:=Z00 r0 4
   have x5:=Z00 r0 5
   have x6:=Z00 r0 6
   have z0:=Z00 b0 0
   have z1:=Z00 b0 1
   have z2:=Z00 b0 2
   have z3:=Z00 b0 3
   have z4:=Z00 b0 4
   have z5:=Z00 b0 5
   have z6:=Z00 b0 6
   have y0:=Z03 b0 0
   have y1:=Z03 b0 1
   have y2:=Z03 b0 2
   have y3:=Z03 b0 3
   have y4:=Z03 b0 4
   have y5:=Z03 b0 5
   have y6:=Z03 b0 6
   have lr7:=Z04 b0
   have lx7:=Z04 r0
   replace b0:=hd_ b0;replace r0:=hd_ r0;replace s2:=hd_ s2;replace k3:=hd_ k3;replace b3:=hd_ b3;replace w0:=hd_ w0;replace m2:=hd_ m2;clear a4 k4 a5 f6 q6 i4;go_wp2
   refine bodyPost_ret (v:=.tuple #[.agg #[.int .i64 frm, .int .i64 boot, .int .i64 (seq+1), .int .i64 o, .int .i64 lv, .int .i64 0, .string d], .int .i64 0]) (by simp [results,Tryz.results143,go_sem, *]) rfl ?_
   have hz:w.heap.size≤rb:=Nat.le_of_eq m0.out.symm
   refine⟨⟨⟨frm,boot,seq+1,o,lv,0,d⟩,by rw [ea.out]⟩,?_⟩
   rw [s1.out,m1.out,ea.out]
   rw [if_pos rfl,if_pos rfl]
   obtain⟨W8,r3⟩:∃ W8,W8=(((((((W7.setCell ⟨rb,0,none⟩ (.int .i64 frm)).setCell ⟨rb,1,none⟩ (.int .i64 boot)).setCell ⟨rb,2,none⟩ (.int .i64 (seq+1))).setCell ⟨rb,3,none⟩ (.int .i64 o)).setCell ⟨rb,4,none⟩ (.int .i64 lv)).setCell ⟨rb,5,none⟩ (.int .i64 0)).setCell ⟨rb,6,none⟩ (.string d)):=⟨_,rfl⟩
   rw [← r3]
   have e3:Chg (fun k=>k=rb) W7 W8:=r3 ▸ Z06 (Z06 (Z06 (Z06 (Z06 (Z06 (Z06 (Chg.refl _ _) rfl) rfl) rfl) rfl) rfl) rfl) rfl
   have w3:=k3.out.chg e3 fun k hk e=>g3 (e ▸ hk)
   refine⟨⟨.inl o2,v6,Z0g s2.out e3 v2,w3,fun k hk=>?_⟩,b3.out.more e3 fun i e=>.inr (by rw [e];exact hz)⟩
   have g4:=w3.lt k hk
   rcases j0.out with h | h
   ·exact .inl (hv.out k (by rw [b1,← h];exact hk))
   ·rw [h] at hk
    injection hk with hk
    have a4:W5.heap.size=w4.heap.size+1:=by rw [v0.out];simp
    have hs4:=(i2.out.on (hh.out ▸ v1.out:Below W3.heap.size W3 w4)).size
    exact .inr ⟨by omega,g4.2⟩
end
section
open Go.RowKit
section
variable {own:Nat→Nat} {K:Nat} {w:World} {a:NdAt} {s:Nd} {out:List MsS}
theorem ndAdd (h:NdO own K w a s out) (o lv:Int) (d:ByteArray) (hs:0≤s.pseq∧s.pseq≤1099511627776) (hl:s.pend.length≤1000) :
  Calls Tryz.prog 143 #[Z09 a.p, .int .i64 o, .int .i64 lv, .string d] w fun r w'=>(∃ e:Ent,r=.returned (.tuple #[e.val, .int .i64 (Z44 (s.castE o lv d) s.pend)])) ∧
   ∃ own',NdO own' K w' a (if Z44 (s.castE o lv d) s.pend=0 then { s with pseq:=s.pseq+1,pend:=s.pend++[s.castE o lv d] } else s) out∧Turn (JK K) own own' w w':=by
 refine (Zjl a.p s.id s.boot s.pseq o lv d s.pend (Is own (K+4)) w h.r.pn hs hl).mono ?_
 rintro r w' ⟨hr,hg,hc⟩
 have hk:=h.r.k16
 have t0:=Turn.ext hc
 have t:Turn (JK K) own _ w w':=t0.mono fun o e=>by unfold JK;omega
 refine⟨hr,_,?_,t⟩
 have a0:=hg.mono (Zjc h.wf (by omega))
 have hP:=h.r.putP (t0.mono fun o e=>.inr e) a0
 have b0:∀ S,NdR (Z5q own w.heap.size w'.heap.size (K+4)) K w' a S out→ndC a S=ndC a s→S.ears=s.ears→NdO (Z5q own w.heap.size w'.heap.size (K+4)) K w' a S out:=fun S hR e1 e2=>
  ⟨by rw [e1];exact t0.pub h.blk (by rw [h.r.ob];omega),by rw [e2];exact h.ears,hR⟩
 have hN:=b0 _ hP rfl rfl
 clear hP a0 hg b0
 unfold Nd.castE at hN ⊢
 by_cases he:Z44 ⟨s.id,s.boot,s.pseq+1,o,lv,0,d⟩ s.pend=0
 ·rw [if_pos he,if_pos he] at hN
  rw [if_pos he]
  exact hN
 ·rw [if_neg he,if_neg he] at hN
  rw [if_neg he]
  exact hN
theorem Zbe (c:Nat) (h:NdO own K w a s out) (hok:Okg c s) (hq:Sq s) (o lv:Int) (d:ByteArray) :
  Calls Tryz.prog 81 #[Z09 a.b, .int .i64 o, .int .i64 lv, .string d] w fun r w'=>r=.returned (.int .i64 (s.cast o lv d).2)∧∃ own',NdO own' K w' a (s.cast o lv d).1 out∧Turn (JK K) own own' w w':=by
 have hI:=hd_ (Z41 own K a s out w h ⟨hok.m0,hok.m1⟩)
 have n0:=hok.ps0
 have hpd:=hok.pd
 have hA:=hd_ fun w1 (hN:NdO own K w1 a s out)=>ndAdd hN o lv d ⟨n0,hq⟩ (by omega)
 obtain⟨i,hi⟩:∃ i,s.in_=i:=⟨_,rfl⟩
 obtain⟨er,h0⟩:∃ er,er=Z44 (s.castE o lv d) s.pend:=⟨_,rfl⟩
 obtain⟨cr,c0⟩:∃ cr,cr=(s.cast o lv d).2:=⟨_,rfl⟩
 obtain⟨cs,d0⟩:∃ cs,cs=(s.cast o lv d).1:=⟨_,rfl⟩
 have hc:s.cast o lv d=if !i then (s,6) else if er=0 then ({ s with pseq:=s.pseq+1,pend:=s.pend++[s.castE o lv d] },0) else (s,er):=by
  unfold Nd.cast
  rw [hi,h0]
  unfold Z44
  cases i with
  | false=>rfl
  | true=>
    cases Z2l (s.castE o lv d) with
    | false=>rfl
    | true=>
      by_cases h4:4≤s.pend.length
      ·simp [h4]
      ·simp [h4]
 rw [← c0,← d0]
 rw [hc] at c0 d0
 rw [hi] at hI
 rw [← h0] at hA
 replace hc:=hd_ hc;replace h0:=hd_ h0;replace hi:=hd_ hi;replace c0:=hd_ c0;replace d0:=hd_ d0
 cases i
 ·go_enter Tryz.func81,Tryz.ntmps81
  go_wp2_with fail
  refine hI.out.mono ?_
  rintro r w1 ⟨rfl,b0⟩
  have a0:=hd_ (h.grow b0)
  have t1:=hd_ (Turn.grow (J:=JK K) (own:=own) b0 h.wf)
  go_wp2
  go_ret
  exact⟨by rw [c0.out];rfl,own,by rw [d0.out];exact a0.out,t1.out⟩
 ·go_enter Tryz.func81,Tryz.ntmps81
  go_wp2_with fail
  refine hI.out.mono ?_
  rintro r w1 ⟨rfl,b0⟩
  have a0:=h.grow b0
  have t1:=hd_ (Turn.grow (J:=JK K) (own:=own) b0 h.wf)
  have l0:w1.cell? ⟨a.b,13,none⟩=some (Z09 a.p):=a0.c 13
  have la:=a0.lt
  have i0:=hd_ (hA.out w1 a0)
  replace h:=hd_ h;clear hI b0 hA a0;go_wp2_with fail
  refine i0.out.mono ?_
  rintro r w2 ⟨⟨e,rfl⟩,own2,e0,t2⟩
  obtain⟨ef,eb,es,eo,el,et,ed⟩:=e
  have t3:=t1.out.trans t2
  obtain⟨S2,f0⟩:∃ S2,S2=if er=0 then { s with pseq:=s.pseq+1,pend:=s.pend++[s.castE o lv d] } else s:=⟨_,rfl⟩
  rw [← f0] at e0
  obtain⟨W3,k0⟩:∃ W3,W3=w2.alloc (.cells #[.int .i64 ef, .int .i64 eb, .int .i64 es, .int .i64 eo, .int .i64 el, .int .i64 et, .string ed] 134):=⟨_,rfl⟩
  have g0:Below w2.heap.size w2 W3:=k0 ▸ (Below.refl _ _).alloc (Nat.le_refl _) _
  have j0:=hd_ (e0.grow g0)
  have t4:=hd_ (t3.trans (Turn.grow (J:=JK K) (own:=own2) g0 e0.wf))
  replace e0:=hd_ e0;replace f0:=hd_ f0;replace t3:=hd_ t3;replace g0:=hd_ g0;clear l0 la i0 t2
  simp only [Ent.val]
  go_wp2
  go_ret
  rw [← k0]
  refine⟨?_,own2,?_,t4.out⟩
  ·rw [c0.out]
   by_cases he:er=0
   ·simp [he]
   ·simp [he]
  ·rw [d0.out]
   by_cases he:er=0
   ·simp only [Bool.not_true,Bool.false_eq_true,if_false,he,if_true]
    have:=j0.out
    rw [f0.out,if_pos he] at this
    exact this
   ·simp only [Bool.not_true,Bool.false_eq_true,if_false,he]
    have:=j0.out
    rw [f0.out,if_neg he] at this
    exact this
end
end
end Go.Proofs.YtbonjbokofkafaaGreat
