/- Lemmas of the proof: PkU. -/
import Derived.Test.YtbonjbokofkafaaGreatPkT
import Derived.Test.YtbonjbokofkafaaGreatPkS
import Derived.Test.YtbonjbokofkafaaGreatPkJ
import Derived.Test.YtbonjbokofkafaaGreatPkK
import Derived.Test.YtbonjbokofkafaaGreatPkQ
import Derived.Test.YtbonjbokofkafaaGreatPkN
namespace Go.Proofs.YtbonjbokofkafaaGreat
set_option linter.unusedVariables false
set_option maxRecDepth 100000
set_option maxHeartbeats 64000000
section
open Go.RowKit
def Nd.has1 (s:Nd) (m:Ms):Nd:=
 { s with q:=s.q.map fun q=>q.ack m.frm m.pos m.num,acked:=(Z37 s.acked.toNat m.frm:Nat),ears:=s.ears.set m.frm.toNat s.clock,com:=max s.com (min (comQ (s.q.map fun q=>q.ack m.frm m.pos m.num)) s.L.length) }
def hasF (P:Int) (s:Nd) (k:Nat):Nd × List (Int × Int × Int) × List Ms:=(s.asked.take k).foldl (hasStep P) (s,[],[])
def Nd.has2 (s:Nd) (P:Int):Nd × List Ms:=({ (hasF P s s.asked.length).1 with asked:=(hasF P s s.asked.length).2.1 },(hasF P s s.asked.length).2.2)
def Nd.hasG (s:Nd) (m:Ms):Nd × List Ms:=
 if okQ s.q m.frm m.pos then (if (s.has1 m).com<(s.has1 m).start then (s.has1 m,[]) else (s.has1 m).has2 (prbQ (s.has1 m).q)) else (s,[])
theorem hasF_0 (P:Int) (s:Nd):hasF P s 0=(s,[],[]):=rfl
theorem Z3e (P:Int) (s:Nd) {k:Nat} (h:k<s.asked.length):hasF P s (k+1)=hasStep P (hasF P s k) s.asked[k]:=by
 unfold hasF
 rw [List.take_add_one,List.getElem?_eq_getElem h,Option.toList_some,List.foldl_append]
 rfl
theorem Z3n (s:Nd) (m:Ms):s.hasM m=s.hasG m:=by
 unfold Nd.hasM Nd.hasG
 cases hq:s.q with
 | none=>rfl
 | some q=>
   cases hk:q.okAck m.frm m.pos with
   | false=>simp only [okQ,hk];rfl
   | true=>
     have e1:s.has1 m={ s with q:=some (q.ack m.frm m.pos m.num),acked:=(Z37 s.acked.toNat m.frm:Nat),ears:=s.ears.set m.frm.toNat s.clock,com:=max s.com (min (medQ (q.ack m.frm m.pos m.num).H (q.ack m.frm m.pos m.num).n) s.L.length) }:=by unfold Nd.has1;rw [hq];rfl
     simp only [okQ,hk,e1,Bool.not_true,Bool.false_eq_true,if_false,if_true,Nd.has2,hasF,List.take_length,prbQ]
theorem ack_same (s:Nd) (m:Ms) (h:okQ s.q m.frm m.pos=false):({ s with q:=s.q.map fun q=>q.ack m.frm m.pos m.num }:Nd)=s:=by
 cases hq:s.q with
 | none=>rw [Option.map_none,← hq]
 | some q=>
   rw [hq] at h
   have h:q.okAck m.frm m.pos=false:=h
   have e1:q.ack m.frm m.pos m.num=q:=by unfold Qd.ack;rw [h];rfl
   rw [Option.map_some,e1,← hq]
theorem Z1w (P:Int) (r:Nd × List (Int × Int × Int) × List Ms) (q:Int × Int × Int) (h:P<q.2.2):hasStep P r q=(r.1,r.2.1++[q],r.2.2):=by
 unfold hasStep;simp only [h,if_true]
theorem Z2a (P:Int) (r:Nd × List (Int × Int × Int) × List Ms) (q:Int × Int × Int) (h:¬ P<q.2.2) (h1:q.1=r.1.id):hasStep P r q=({ r.1 with pf:=r.1.pf.get q.2.1 r.1.com },r.2.1,r.2.2):=by
 unfold hasStep;simp only [h,h1,if_false,beq_self_eq_true,if_true]
theorem Z2b (P:Int) (r:Nd × List (Int × Int × Int) × List Ms) (q:Int × Int × Int) (h:¬ P<q.2.2) (h1:¬ q.1=r.1.id):hasStep P r q=(r.1,r.2.1,r.2.2++[{ r.1.ms 9 q.1 with view:=r.1.last,num:=q.2.1,com:=r.1.com }]):=by
 unfold hasStep
 have e:(q.1==r.1.id)=false:=by simpa using h1
 simp only [h,e,if_false,Bool.false_eq_true]
theorem Z3o (P:Int) (s:Nd):∀ k,k≤s.asked.length→(hasF P s k).1={ s with pf:=(hasF P s k).1.pf }∧(hasF P s k).2.1.length≤k∧(hasF P s k).2.2.length≤k
 | 0,_=>⟨rfl,Nat.le_refl _,Nat.le_refl _⟩
 | k+1,h=>by
   obtain⟨h1,h2,h3⟩:=Z3o P s k (by omega)
   rw [Z3e P s (by omega)]
   generalize hasF P s k=r at h1 h2 h3 ⊢
   obtain⟨s2,rest,out⟩:=r
   have h1:s2={ s with pf:=s2.pf }:=h1
   by_cases hc:P<(s.asked[k]'(by omega)).2.2
   ·rw [Z1w _ _ _ hc]
    exact⟨h1,by simp at h2 ⊢;omega,by simp at h3 ⊢;omega⟩
   ·by_cases hi:(s.asked[k]'(by omega)).1=s2.id
    ·rw [Z2a _ _ _ hc hi]
     exact⟨by rw [h1],by simp at h2 ⊢;omega,by simp at h3 ⊢;omega⟩
    ·rw [Z2b _ _ _ hc hi]
     exact⟨h1,by simp at h2 ⊢;omega,by simp at h3 ⊢;omega⟩
def relJ (own:Nat→Nat) (j i:Nat):Nat→Nat:=fun c=>if own c=j then i else own c
theorem Z1t {own:Nat→Nat} {c j i o:Nat} (h:own c=o) (hj:o≠j):relJ own j i c=o:=by unfold relJ;rw [if_neg (by omega)];exact h
theorem Is.relJ {own:Nat→Nat} {j i o:Nat} (hj:o≠j):∀ k,Is own o k→Is (relJ own j i) o k:=fun k h=>Z1t h hj
section
variable {own:Nat→Nat} {K:Nat} {w:World} {a:NdAt} {s:Nd} {out:List MsS}
theorem NdR.relJ (h:NdR own K w a s out) {j:Nat} (hj:K+12<j):NdR (relJ own j (K+11)) K w a s out:=by
 have hk:=h.k16
 refine⟨fun c hc=>Z1t (h.wf c hc) (by omega),hk,Z1t h.ob (by omega),Z1t h.odk (by omega),h.dsz,h.dsk,⟨Z1t h.gm.1 (by omega),h.gm.2⟩,fun e e2=>⟨Z1t (h.jn e e2).1 (by omega),(h.jn e e2).2⟩,
  h.lg.mono (Is.relJ (by omega)),h.pn.mono (Is.relJ (by omega)),h.rq.mono (Is.relJ (by omega)),⟨Z1t h.tt.1 (by omega),Z1t h.tt.2.1 (by omega),h.tt.2.2⟩,h.pf.mono (Is.relJ (by omega)),?_,?_,⟨h.ask.1,fun k hk'=>Z1t (h.ask.2 k hk') (by omega)⟩,?_⟩
 ·have hv:=h.vt
  match hs:s.v,ha:a.v with
  | none,none=>trivial
  | some (u,l),some vb=>
    rw [hs,ha] at hv
    obtain⟨ls,e,hv⟩:=hv
    refine⟨ls,e,hv.monoF (Is.relJ (by omega)) (Is.relJ (by omega)) fun k h1 h2=>?_⟩
    have h1:Go.Proofs.YtbonjbokofkafaaGreat.relJ own j (K+11) k=K+8:=h1
    have h2:Go.Proofs.YtbonjbokofkafaaGreat.relJ own j (K+11) k=K+9:=h2
    omega
  | none,some _=>rw [hs,ha] at hv;exact hv.elim
  | some (_,_),none=>rw [hs,ha] at hv;exact hv.elim
 ·have hq:=h.qm
  match hs:s.q,ha:a.qb with
  | none,none=>trivial
  | some q,some qb=>rw [hs,ha] at hq;exact⟨Z1t hq.1 (by omega),hq.2⟩
  | none,some _=>rw [hs,ha] at hq;exact hq.elim
  | some _,none=>rw [hs,ha] at hq;exact hq.elim
 ·exact⟨h.out.1,fun k hk'=>Z1t (h.out.2.1 k hk') (by omega),fun x hx=>⟨(h.out.2.2 x hx).1,fun h0 k hk'=>Z1t ((h.out.2.2 x hx).2 h0 k hk') (by omega)⟩⟩
theorem Turn.relJ {own2:Nat→Nat} {w':World} {J:Nat→Prop} {j i:Nat} (hj:0<j) (hf:∀ c,own c≠j) (t:Turn (fun o=>J o∨o=j) own own2 w w'):Turn J own (relJ own2 j i) w w':=
 ⟨t.chg.mono fun c _ h=>h.elim id fun e=>absurd e (hf c),fun c hc=>Z1t (t.old c hc) (hf c),fun c hc=>Z1t (t.new c hc) (by omega)⟩
structure HasI (own:Nat→Nat) (K j:Nat) (a:NdAt) (s:Nd) (out:List Ms) (P:Int) (w wr:World) (ov:Value) (k:Nat):Prop where
 ex:∃ own2 v2 o2,NdO own2 K wr { a with ov:=v2 } (hasF P s k).1 o2∧o2.map MsS.m=out++(hasF P s k).2.2∧ownG Z1i wr 0 179 ov (hasF P s k).2.1∧(∀ x,ov.ownBlock=some x→own2 x=j)∧Turn (fun o=>JK K o∨o=j) own own2 w wr
theorem HasI.start (h:NdO own K w a s out) (P:Int) (j:Nat):HasI own K j a s (out.map MsS.m) P w w (.slice none 0 0) 0:=
 ⟨own,a.ov,out,h,by simp [hasF_0],Z12 _ _ _ _,fun x hx=>(by cases hx), .same (Chg.refl _ _) h.wf⟩
theorem HasI.grow {j:Nat} {o:List Ms} {P:Int} {wr w':World} {ov:Value} {k:Nat} (h:HasI own K j a s o P w wr ov k) (hb:Below wr.heap.size wr w'):HasI own K j a s o P w w' ov k:=by
 obtain⟨own2,v2,o2,hN,e,ho,hj,t⟩:=h.ex
 exact⟨own2,v2,o2,hN.grow hb,e,ho.grow Z1i hb,hj,t.trans (Turn.grow hb hN.wf)⟩
theorem HasI.fin {j:Nat} {P:Int} {wr:World} {ov:Value} (hj:K+12<j) (hf:∀ c,own c≠j) (h:HasI own K j a s (out.map MsS.m) P w wr ov s.asked.length) :
  ∃ own2 a2 o2,NdO own2 K (wr.setCell ⟨a.b,32,none⟩ ov) a2 (s.has2 P).1 o2∧o2.map MsS.m=out.map MsS.m++(s.has2 P).2∧At0 a a2∧Turn (JK K) own own2 w (wr.setCell ⟨a.b,32,none⟩ ov):=by
 obtain⟨own2,v2,o2,hN,e,ho,b0,t⟩:=h.ex
 have h16:=hN.r.k16
 have t1:Turn (JK K) own (Go.Proofs.YtbonjbokofkafaaGreat.relJ own2 j (K+11)) w wr:=t.relJ (by omega) hf
 have hR:=hN.r.relJ hj
 have c0:own2 a.b=K:=hN.r.ob
 have a0:Go.Proofs.YtbonjbokofkafaaGreat.relJ own2 j (K+11) a.b=K:=Z1t c0 (by omega)
 have t2:Turn (fun o=>o=K∨o=K+11) (Go.Proofs.YtbonjbokofkafaaGreat.relJ own2 j (K+11)) (Go.Proofs.YtbonjbokofkafaaGreat.relJ own2 j (K+11)) wr (wr.setCell ⟨a.b,32,none⟩ ov):=.same (Z06 (Chg.refl _ _) (.inl a0)) hR.wf
 refine⟨_,{ a with ov:=v2,av:=ov },o2,⟨?_,hN.ears,hR.putA t2 ⟨?_,?_⟩⟩,e,⟨rfl,rfl,rfl,rfl,rfl⟩,t1.trans (t2.mono fun o e=>by unfold JK;omega)⟩
 ·have e:=Z0d (o:=32) (u:=ov) hN.blk
  rw [Z7a _ _ hN.ears ov] at e
  exact e
 ·refine ho.same _ fun k hk=>Z0u rfl ?_
  rintro rfl
  have:=b0 _ hk
  omega
 ·intro k hk
  show (if own2 k=j then K+11 else own2 k)=K+11
  rw [if_pos (b0 k hk)]
end
end
section
open Go.RowKit
theorem ack_qd {s:Nd} (h:Zd3 s) (f po nu:Int) (s1:Nd) (hq:s1.q=s.q.map fun q=>q.ack f po nu) (hn:s1.n=s.n) (hi:s1.id=s.id):Zd3 s1:=by
 intro q e
 rw [hq] at e
 cases h0:s.q with
 | none=>rw [h0] at e;cases e
 | some q0=>
   rw [h0] at e
   have e:q0.ack f po nu=q:=by injection e
   have h1:=h q0 h0
   rw [hn,hi,← e]
   unfold Qd.ack
   split<;>exact h1
section
variable {own:Nat→Nat} {K:Nat} {w:World} {a:NdAt} {s:Nd} {out:List MsS}
theorem xHas_any (h:NdO own K w a s out) (hqd:Zd3 s) (hn:3≤s.n∧s.n≤7) (hac:0≤s.acked∧s.acked<128) (h60:s.L.length≤60) (m:Ms) (sa:Option Addr) (sc:Nat) (hl:out.length≤1000000) (hasl:s.asked.length≤1000000) :
  Calls Tryz.prog 204 #[Z09 a.b,Z0w m (.slice sa m.ents.length sc)] w fun r w'=>r=.returned (.tuple #[])∧∃ own2 a2 o2,NdO own2 K w' a2 (s.hasM m).1 o2∧o2.map MsS.m=out.map MsS.m++(s.hasM m).2∧At0 a a2∧Turn (JK K) own own2 w w':=by
 obtain⟨i0,hi,m6,n6,o6⟩:=info_parts Zje
 replace hi:=hd_ hi
 have b6:=h.r.k16
 rw [Z3n]
 obtain⟨k,f,t,b,vi,la,me,po,es,co,nu,cl,y⟩:=m
 dsimp only at *
 obtain⟨W0,n2⟩:∃ W,W=w.alloc (.cells #[.int .i64 k, .int .i64 f, .int .i64 t, .int .i64 b, .int .i64 vi, .int .i64 la, .int .i64 me, .int .i64 po, .slice sa es.length sc, .int .i64 co, .int .i64 nu, .int .i64 cl, .bool y] 37):=⟨_,rfl⟩
 have p4:Below w.heap.size w W0:=n2 ▸ (Below.refl _ _).alloc (Nat.le_refl _) _
 obtain⟨mb,e4⟩:∃ mb,mb=w.heap.size:=⟨_,rfl⟩
 have c1:W0.heap[mb]?=some (.cells #[.int .i64 k, .int .i64 f, .int .i64 t, .int .i64 b, .int .i64 vi, .int .i64 la, .int .i64 me, .int .i64 po, .slice sa es.length sc, .int .i64 co, .int .i64 nu, .int .i64 cl, .bool y] 37 (0,0)):=n2 ▸ e4 ▸ Z0a _ _
 have j1:=h.grow p4
 have x4:own mb=0:=h.wf mb (by omega)
 have t0:=hd_ (Turn.grow (J:=JK K) (own:=own) p4 h.wf)
 obtain⟨R,hR⟩:∃ R,R=s.hasG ⟨k,f,t,b,vi,la,me,po,es,co,nu,cl,y⟩:=⟨_,rfl⟩
 rw [← hR]
 obtain⟨s1,i4⟩:∃ s1,s1=s.has1 ⟨k,f,t,b,vi,la,me,po,es,co,nu,cl,y⟩:=⟨_,rfl⟩
 have c0:=ack_same s ⟨k,f,t,b,vi,la,me,po,es,co,nu,cl,y⟩
 unfold Nd.hasG at hR
 rw [← i4] at hR
 dsimp only at hR c0
 obtain⟨g,hg⟩:∃ g,okQ s.q f po=g:=⟨_,rfl⟩
 rw [hg] at hR c0
 have m1:=Z00 c1 1
 have m7:=Z00 c1 7
 have m10:=Z00 c1 10
 simp only [List.getElem?_toArray,List.getElem?_cons_zero,List.getElem?_cons_succ] at m1 m7 m10
 have a7:=Z04 c1
 have z5:W0.cell? ⟨a.b,21,none⟩=some (Z3f a.qb):=j1.c 21
 have z6:=j1.lt
 replace j1:=hd_ j1;replace c1:=hd_ c1;replace hR:=hd_ hR;replace i4:=hd_ i4;replace c0:=hd_ c0;clear p4
 go_enter Tryz.func204,Tryz.ntmps204
 go_upto_region 1 with (fail)
 rw [← n2,← e4]
 replace n2:=hd_ n2;replace e4:=hd_ e4;replace h:=hd_ h
 refine Z05 (fun c=>own c=K+10) (.q 0 (.q 1 (.q 2 (.q 3 (.q 4 (.q 5 (.q 6 (.q 7 (.q 8 (.q 9 (.l 10 (.q 11 .fin)))))))))))) (by kernel_rfl) (by kernel_rfl) ?_
 intro w1 k5 a3
 have y0:=j1.out.grow a3
 have n1:=Z02 c1.out a3
 have hbo:=y0.r.ob
 have p3:=Z01 (F:=fun c=>own c=K+10) (b:=w1) (show ¬ own a.b=K+10 from by omega) (show w1.cell? ⟨a.b,21,none⟩=some (Z3f a.qb) from y0.c 21)
 have p1:=Z01 (F:=fun c=>own c=K+10) (b:=w1) (show ¬ own mb=K+10 from by omega) (show w1.cell? ⟨mb,1,none⟩=some (.int .i64 f) from Z00 n1 1)
 have p7:=Z01 (F:=fun c=>own c=K+10) (b:=w1) (show ¬ own mb=K+10 from by omega) (show w1.cell? ⟨mb,7,none⟩=some (.int .i64 po) from Z00 n1 7)
 have p10:=Z01 (F:=fun c=>own c=K+10) (b:=w1) (show ¬ own mb=K+10 from by omega) (show w1.cell? ⟨mb,10,none⟩=some (.int .i64 nu) from Z00 n1 10)
 have hQ:=Zj8 y0 hqd f po nu
 rw [hg] at hQ
 replace hQ:=hd_ hQ
 have t1:=hd_ (t0.out.trans (Turn.grow (J:=JK K) a3 j1.out.wf))
 replace y0:=hd_ y0;replace n1:=hd_ n1;replace a3:=hd_ a3;replace k5:=hd_ k5;clear m1 m7 m10 a7 z5 z6 j1 c1 t0;iterate 10 (refine Z0n rfl ?_;go_big_quiet_step (fail);refine wpQuiet_nil ?_)
 clear p1 p7 p10 p3;refine Z0j rfl (by kernel_rfl) ?_;intro K1 hK;go_simp
 refine hQ.out.mono ?_
 rintro r w2 ⟨rfl,k1,t2⟩
 refine hK _ _ t2.chg ?_
 clear hK K1 hQ;refine Z0n rfl ?_;go_big_quiet_step (fail);refine wpQuiet_nil ?_;refine Z0c ?_
 have p5:=hd_ (Z0g n1.out t2.chg (by rw [x4];omega))
 have t2':=hd_ (t1.out.trans (t2.mono fun o e=>show JK K o by unfold JK;omega))
 clear t2 n1 y0 t1
 cases g
 case false=>
  have e:=hd_ (show R=(s,[]) from hR.out)
  rw [c0.out rfl] at k1
  replace k1:=hd_ k1;go_wp2
  refine bodyPost_ret (results_none rfl _ _ _) rfl ?_
  rw [e.out]
  exact⟨rfl,own,a,out,k1.out,by simp, .refl a,t2'.out⟩
 have m2:R=if s1.com<s1.start then (s1,[]) else s1.has2 (prbQ s1.q):=hR.out
 replace m2:=hd_ m2;clear hR c0
 obtain⟨f,rfl⟩:∃ i:Nat,f=(i:Int):=by
  have:okQ s.q f po=true:=hg
  cases hq:s.q with
  | none=>rw [hq] at this;cases this
  | some q=>
    rw [hq] at this
    have:q.okAck f po=true:=this
    unfold Qd.okAck at this
    simp only [Bool.and_eq_true,decide_eq_true_eq] at this
    obtain⟨_,_,m0,m1,_⟩:=hqd q hq
    have:=Z5c (by omega) this.1.1
    exact Int.eq_ofNat_of_zero_le (by omega)
 have i5:f<8:=by
  have:okQ s.q (f:Int) po=true:=hg
  cases hq:s.q with
  | none=>rw [hq] at this;cases this
  | some q=>
    rw [hq] at this
    have:q.okAck f po=true:=this
    unfold Qd.okAck at this
    simp only [Bool.and_eq_true,decide_eq_true_eq] at this
    obtain⟨_,_,m0,m1,_⟩:=hqd q hq
    have:=Z5c (by omega) this.1.1
    omega
 go_upto_region 2 with (fail)
 refine Z05 (fun _=>False) (.q 0 (.q 1 (.q 2 (.q 3 (.q 4 (.q 5 (.q 6 (.l 7 (.q 8 (.q 9 (.cut (.l 10 .fin)))))))))))) (by kernel_rfl) (by kernel_rfl) ?_
 intro w3 d2 n0
 have h0:=k1.grow n0
 have j3:=Z02 p5.out n0
 have t3:=hd_ (t2'.out.trans (Turn.grow (J:=JK K) n0 k1.wf))
 have v6:=Z01 (F:=fun _=>False) (b:=w3) (fun h=>h) (show w3.cell? ⟨a.b,23,none⟩=some (.int .i64 s.acked) from h0.c 23)
 have p1:=Z01 (F:=fun _=>False) (b:=w3) (fun h=>h) (show w3.cell? ⟨mb,1,none⟩=some (.int .i64 (f:Int)) from Z00 j3 1)
 have hH:=hd_ (with_any s.acked f w3 hac)
 replace hg:=hd_ hg;replace n0:=hd_ n0;replace d2:=hd_ d2;replace j3:=hd_ j3;clear k1 p5 t2';iterate 7 (refine Z0n rfl ?_;go_big_quiet_step (fail);refine wpQuiet_nil ?_)
 clear v6 p1;refine Z0j rfl (by kernel_rfl) ?_;intro K1 hK;go_simp
 refine hH.out.mono ?_
 rintro r wx ⟨rfl,rfl⟩
 refine hK _ _ (Chg.refl _ _) ?_
 clear hK K1 hH;iterate 2 (refine Z0n rfl ?_;go_big_quiet_step (fail);refine wpQuiet_nil ?_)
 refine Z0h Z1j ?_
 have c7:w3.cell? ⟨a.b,23,none⟩=some (.int .i64 s.acked):=h0.c 23
 have e7:=Z03 h0.blk 23
 have y6:=h0.lt
 obtain⟨h4,t4⟩:=h0.s23 ((Z37 s.acked.toNat f:Nat):Int)
 obtain⟨W4,y3⟩:∃ W,W=w3.setCell ⟨a.b,23,none⟩ (.int .i64 ((Z37 s.acked.toNat f:Nat):Int)):=⟨_,rfl⟩
 rw [← y3] at h4 t4
 have b4:=Z0g j3.out t4.chg (by rw [x4];omega)
 have t4':=hd_ (t3.out.trans (t4.mono jkK))
 replace b4:=hd_ b4;replace h4:=hd_ h4;clear h0 t4 t3 j3 n0 d2;refine Z0j rfl (by kernel_rfl) ?_;intro K1 hK;go_simp
 refine hK _ _ (Z06 (Chg.refl _ _) trivial) ?_
 clear hK K1;refine Z0c ?_
 rw [← y3]
 replace y3:=hd_ y3;clear c7 e7 y6;go_upto_region 3 with (fail)
 refine Z05 (fun _=>False) (.q 0 (.q 1 (.q 2 (.q 3 (.q 4 (.q 5 (.q 6 (.q 7 (.q 8 (.q 9 (.cut (.l 10 .fin)))))))))))) (by kernel_rfl) (by kernel_rfl) ?_
 intro w5 g2 o0
 have e0:=h4.out.grow o0
 have k3:=Z02 b4.out o0
 have t5:=hd_ (t4'.out.trans (Turn.grow (J:=JK K) o0 h4.out.wf))
 have k4:=Z01 (F:=fun _=>False) (b:=w5) (fun h=>h) (show w5.cell? ⟨a.b,4,none⟩=some (.int .i64 s.clock) from e0.c 4)
 have p1:=Z01 (F:=fun _=>False) (b:=w5) (fun h=>h) (show w5.cell? ⟨mb,1,none⟩=some (.int .i64 (f:Int)) from Z00 k3 1)
 replace o0:=hd_ o0;replace g2:=hd_ g2;replace k3:=hd_ k3;clear h4 b4 t4';iterate 10 (refine Z0n rfl ?_;go_big_quiet_step (fail);refine wpQuiet_nil ?_)
 clear k4 p1;refine Z0h Z1j ?_
 obtain⟨e8,d6⟩:∃ e8,s.ears.getD f 0=e8:=⟨_,rfl⟩
 have qf:w5.cell? ⟨a.b,24+f,none⟩=some (.int .i64 e8):=by
  rw [e0.c (24+f),← d6]
  exact Zce a _ e0.ears f i5
 have zf:=Z03 e0.blk (24+f)
 have lf:=e0.lt
 obtain⟨h6,t6⟩:=e0.sear f i5 s.clock
 obtain⟨W6,z3⟩:∃ W,W=w5.setCell ⟨a.b,24+f,none⟩ (.int .i64 s.clock):=⟨_,rfl⟩
 rw [← z3] at h6 t6
 have d4:=Z0g k3.out t6.chg (by rw [x4];omega)
 have t6':=hd_ (t5.out.trans (t6.mono jkK))
 replace d4:=hd_ d4;replace h6:=hd_ h6;clear e0 t6 t5 k3 o0 g2;refine Z0j rfl (by kernel_rfl) ?_;intro K1 hK;go_simp
 refine hK _ _ (Z06 (Chg.refl _ _) trivial) ?_
 clear hK K1;refine Z0c ?_
 rw [← z3]
 replace z3:=hd_ z3;clear qf zf lf
 obtain⟨qn,m3⟩:∃ qn,qn=s.q.map (fun q=>q.ack (f:Int) po nu):=⟨_,rfl⟩
 obtain⟨s6,s0⟩:∃ s6:Nd,s6={ s with q:=qn,acked:=((Z37 s.acked.toNat f:Nat):Int),ears:=s.ears.set f s.clock }:=⟨_,rfl⟩
 have o4:NdO own K W6 a s6 out:=by rw [s0,m3];exact h6.out
 have l3:Zd3 s6:=ack_qd hqd (f:Int) po nu s6 (by rw [s0,m3]) (by rw [s0]) (by rw [s0])
 have n4:s6.q=qn:=by rw [s0]
 have s3:s6.com=s.com:=by rw [s0]
 have m4:s6.L=s.L:=by rw [s0]
 have v3:s6.n=s.n:=by rw [s0]
 have d0:s1={ s6 with com:=max s.com (min (comQ qn) s.L.length) }:=by rw [i4.out,s0,m3];rfl
 replace d0:=hd_ d0;replace s0:=hd_ s0;replace m3:=hd_ m3;replace v3:=hd_ v3;clear h6;go_upto_region 4 with (fail)
 refine Z05 (fun _=>False) (.q 0 (.q 1 (.q 2 (.q 3 (.q 4 (.q 5 (.q 6 (.q 7 (.q 8 (.q 10 (.q 11 (.q 12 (.q 13 (.l 9 (.l 14 (.q 15 (.q 16 (.q 17 (.q 18 (.cut (.l 19 .fin))))))))))))))))))))) (by kernel_rfl) (by kernel_rfl) ?_
 intro w7 l5 b3
 have f0:=o4.grow b3
 have t7:=hd_ (t6'.out.trans (Turn.grow (J:=JK K) b3 o4.wf))
 have q5:=hd_ (Z02 d4.out b3)
 have r1:=Z01 (F:=fun _=>False) (b:=w7) (fun h=>h) (show w7.cell? ⟨a.b,10,none⟩=some (.int .i64 s.com) from by rw [← s3];exact f0.c 10)
 have p3:=Z01 (F:=fun _=>False) (b:=w7) (fun h=>h) (show w7.cell? ⟨a.b,21,none⟩=some (Z3f a.qb) from f0.c 21)
 have k9:=Z01 (F:=fun _=>False) (b:=w7) (fun h=>h) (show w7.cell? ⟨a.b,9,none⟩=some (Z09 a.l) from f0.c 9)
 have hC:=hd_ (Zj9 f0 l3 (by rw [v3.out];exact hn))
 rw [n4] at hC
 replace b3:=hd_ b3;replace l5:=hd_ l5;replace n4:=hd_ n4;replace s3:=hd_ s3;replace m4:=hd_ m4;replace f0:=hd_ f0;clear o4 d4 t6';iterate 13 (refine Z0n rfl ?_;go_big_quiet_step (fail);refine wpQuiet_nil ?_)
 clear r1 p3 k9;refine Z0j rfl (by kernel_rfl) ?_;intro K1 hK;go_simp
 refine hC.out.mono ?_
 rintro r w8 ⟨rfl,d3⟩
 refine hK _ _ (.of_below d3) ?_
 clear hK K1 hC
 have a1:=f0.out.grow d3
 have t8:=hd_ (t7.out.trans (Turn.grow (J:=JK K) d3 f0.out.wf))
 have g6:=hd_ (Z02 q5.out d3)
 have r4:=hd_ (Z0m a.l s6.L w8 a1.r.lg.rd)
 rw [m4.out] at r4
 replace a1:=hd_ a1;clear f0 q5 t7;refine Z0j rfl (by kernel_rfl) ?_;intro K1 hK;go_simp
 refine r4.out.mono ?_
 rintro r wx ⟨rfl,rfl⟩
 refine hK _ _ (.of_below d3) ?_
 clear hK K1 r4;iterate 4 (refine Z0n rfl ?_;go_big_quiet_step (fail);refine wpQuiet_nil ?_)
 refine Z0h Z1j ?_
 have b7:w8.cell? ⟨a.b,10,none⟩=some (.int .i64 s.com):=by rw [← s3.out];exact a1.out.c 10
 have d7:=Z03 a1.out.blk 10
 have x6:=a1.out.lt
 obtain⟨h9,t9⟩:=a1.out.s10 (max s.com (min (comQ qn) s.L.length))
 obtain⟨W9,y2⟩:∃ W,W=w8.setCell ⟨a.b,10,none⟩ (.int .i64 (max s.com (min (comQ qn) s.L.length))):=⟨_,rfl⟩
 rw [← y2,← d0.out] at h9
 rw [← y2] at t9
 have t9':=hd_ (t8.out.trans (t9.mono jkK))
 have b5:s1.com=max s.com (min (comQ qn) s.L.length):=by rw [d0.out]
 have z4:Zd3 s1:=by
  have e1:s1.q=s6.q:=by rw [d0.out]
  have e2:s1.n=s6.n:=by rw [d0.out]
  have e3:s1.id=s6.id:=by rw [d0.out]
  intro q e
  rw [e2,e3]
  exact l3 q (by rw [← e1];exact e)
 have i6:3≤s1.n∧s1.n≤7:=by rw [show s1.n=s6.n from by rw [d0.out],v3.out];exact hn
 have h5:s1.asked.length≤1000000:=by rw [show s1.asked=s.asked from by rw [d0.out,s0.out]];exact hasl
 replace h9:=hd_ h9;replace b5:=hd_ b5;clear a1 g6 t8 t9;refine Z0j rfl (by kernel_rfl) ?_;intro K1 hK;go_simp
 refine hK _ _ (Z06 (Chg.refl _ _) trivial) ?_
 clear hK K1;refine Z0c ?_
 rw [← y2]
 replace y2:=hd_ y2;clear b7 d7 x6;go_upto_region 5 with (fail)
 refine Z05 (fun _=>False) (.q 0 (.q 1 (.q 2 (.q 3 (.q 4 (.q 5 (.q 6 (.q 7 (.q 8 .fin))))))))) (by kernel_rfl) (by kernel_rfl) ?_
 intro wa m5 a4
 have ha:=h9.out.grow a4
 have ta:=hd_ (t9'.out.trans (Turn.grow (J:=JK K) a4 h9.out.wf))
 have r1:=Z01 (F:=fun _=>False) (b:=wa) (fun h=>h) (show wa.cell? ⟨a.b,10,none⟩=some (.int .i64 s1.com) from ha.c 10)
 have r6:=Z01 (F:=fun _=>False) (b:=wa) (fun h=>h) (show wa.cell? ⟨a.b,22,none⟩=some (.int .i64 s1.start) from ha.c 22)
 replace ha:=hd_ ha;replace a4:=hd_ a4;replace m5:=hd_ m5;clear h9 t9';iterate 9 (refine Z0n rfl ?_;go_big_quiet_step (fail);refine wpQuiet_nil ?_)
 clear r1 r6;refine Z0c ?_
 by_cases hcs:s1.com<s1.start
 case pos=>
  have e:=hd_ (show R=(s1,[]) from by rw [m2.out,if_pos hcs])
  go_wp2_with fail
  refine bodyPost_ret (results_none rfl _ _ _) rfl ?_
  rw [e.out]
  exact⟨rfl,own,a,out,ha.out,by simp, .refl a,ta.out⟩
 have e:=hd_ (show R=s1.has2 (prbQ s1.q) from by rw [m2.out,if_neg hcs])
 clear m2
 obtain⟨av,y1⟩:∃ av,a.av=av:=⟨_,rfl⟩
 have c32:wa.cell? ⟨a.b,32,none⟩=some av:=by rw [ha.out.c 32,Z6f a s1 ha.out.ears,y1]
 obtain⟨ada,a6,l6⟩:∃ ad c,av=.slice ad s1.asked.length c:=by rw [← y1];exact (ha.out.r.ask.1.rd Z1i).len
 subst l6
 obtain⟨j,hj,f6⟩:=Zb0 own wa.heap.size K ha.out.wf
 obtain⟨P,hP⟩:∃ P,prbQ s1.q=P:=⟨_,rfl⟩
 rw [hP] at e
 have c6:=hd_ (HasI.start ha.out P j)
 have laa:=ha.out.lt
 replace y1:=hd_ y1;replace ha:=hd_ ha;replace hP:=hd_ hP;go_wp2
 go_loopw [72,4] (fun i ov wr=>∃ k:Nat,k≤s1.asked.length∧i=.int .i64 k∧Hid (HasI own K j a s1 (out.map MsS.m) P wa wr ov k)) (fun i _ _=>s1.asked.length-(intOf i).toNat)
 case atStart=>exact⟨0,Nat.zero_le _,rfl,c6⟩
 case round=>
  obtain⟨k,hk,rfl,hJ⟩:=hrel
  by_cases hlt:k<s1.asked.length
  ·obtain⟨own2,v2,o2,hN,eo,g0,i2,tr⟩:=hJ.out.ex
   obtain⟨z0,n5,o5⟩:=Z3o P s1 k hk
   have a0:=Z3e P s1 hlt
   obtain⟨q,hq⟩:∃ q,q=s1.asked[k]:=⟨_,rfl⟩
   rw [← hq] at a0
   generalize hasF P s1 k=Rk at hN eo g0 z0 n5 o5 a0
   obtain⟨s2,rest,o3⟩:=Rk
   dsimp only at hN eo g0 z0 n5 o5
   obtain⟨q0,q1,q2⟩:=q
   have l1:s2.asked=s1.asked:=by rw [z0]
   obtain⟨_,_,ee,_,_,x5⟩:=hN.r.ask.1.rd Z1i
   have ee:a.av=_:=ee
   rw [y1.out,l1] at ee
   injection ee with e1 e2 e3
   subst e1 e3
   obtain⟨lb,off,rfl,hc⟩:=x5 (by rw [l1];omega)
   have g3:=hc k (by rw [l1];exact hlt)
   have v5:s2.asked[k]'(by rw [l1];exact hlt)=(q0,q1,q2):=by rw [hq];simp only [l1]
   rw [v5] at g3
   have x0:=g3 0 _ rfl
   have x1:=g3 1 _ rfl
   have x2:=g3 2 _ rfl
   obtain⟨W1,r2⟩:∃ W,W=wr.alloc (.cells #[.int .i64 q0, .int .i64 q1, .int .i64 q2] 179):=⟨_,rfl⟩
   have x3:Below wr.heap.size wr W1:=r2 ▸ (Below.refl _ _).alloc (Nat.le_refl _) _
   obtain⟨nb,g4⟩:∃ nb,nb=wr.heap.size:=⟨_,rfl⟩
   have j4:W1.heap[nb]?=some (.cells #[.int .i64 q0, .int .i64 q1, .int .i64 q2] 179 (0,0)):=r2 ▸ g4 ▸ Z0a _ _
   have hno:own2 nb=0:=hN.wf nb (by omega)
   have y0:=hd_ (hN.grow x3)
   have g1:=hd_ (g0.grow Z1i x3)
   have tr1:=hd_ (tr.trans (Turn.grow x3 hN.wf))
   replace hq:=hd_ hq;replace j4:=hd_ j4;replace z0:=hd_ z0;replace eo:=hd_ eo;replace l1:=hd_ l1;clear hc x5 g3 hN g0 tr v5 x3
   rw [Nat.add_zero] at x0
   rw [show Z1i.size=3 from rfl] at x0 x1 x2
   go_upto_region 11 with (fail)
   rw [← r2,← g4]
   replace r2:=hd_ r2;replace g4:=hd_ g4;clear x0 x1 x2
   refine Z05 (fun _=>False) (.q 0 (.q 1 (.q 2 (.q 3 (.q 4 (.q 5 (.l 6 (.q 7 (.q 8 .fin))))))))) (by kernel_rfl) (by kernel_rfl) ?_
   intro w3 d2 n0
   have h0:=y0.out.grow n0
   have n3:=Z02 j4.out n0
   have r3:s2.q=s1.q:=by rw [z0.out]
   have q3:s2.n=s1.n:=by rw [z0.out]
   have l4:s2.id=s1.id:=by rw [z0.out]
   have e5:s2.last=s1.last:=by rw [z0.out]
   have d5:s2.com=s1.com:=by rw [z0.out]
   have a5:Zd3 s2:=by intro q e;rw [q3,l4];exact z4 q (by rw [← r3];exact e)
   have s4:=hd_ (ndQProbe h0 a5 (by rw [q3];exact i6))
   rw [r3,hP.out] at s4
   have p3:=Z01 (F:=fun _=>False) (b:=w3) (fun h=>h) (show w3.cell? ⟨a.b,21,none⟩=some (Z3f a.qb) from h0.c 21)
   have p2:=Z01 (F:=fun _=>False) (b:=w3) (fun h=>h) (show w3.cell? ⟨nb,2,none⟩=some (.int .i64 q2) from Z00 n3 2)
   have i1:=hd_ (g1.out.grow Z1i n0)
   have tr3:=hd_ (tr1.out.trans (Turn.grow n0 y0.out.wf))
   replace r3:=hd_ r3;replace q3:=hd_ q3;replace l4:=hd_ l4;replace e5:=hd_ e5;replace d5:=hd_ d5;replace h0:=hd_ h0;replace n3:=hd_ n3;replace n0:=hd_ n0;replace d2:=hd_ d2;clear y0 g1 tr1 j4;iterate 6 (refine Z0n rfl ?_;go_big_quiet_step (fail);refine wpQuiet_nil ?_)
   clear p3 p2;refine Z0j rfl (by kernel_rfl) ?_;intro K1 hK;go_simp
   refine s4.out.mono ?_
   rintro r w4 ⟨rfl,z1⟩
   refine hK _ _ (.of_below z1) ?_
   clear hK K1 s4;iterate 2 (refine Z0n rfl ?_;go_big_quiet_step (fail);refine wpQuiet_nil ?_)
   refine Z0c ?_
   have l2:=hd_ (h0.out.grow z1)
   have w0:=hd_ (i1.out.grow Z1i z1)
   have tr4:=hd_ (tr3.out.trans (Turn.grow z1 h0.out.wf))
   have j2:=hd_ (Z02 n3.out z1)
   clear h0 i1 tr3 n3 z1
   by_cases hc:P<q2
   ·rw [Z1w _ _ _ hc] at a0
    dsimp only at a0
    replace a0:=hd_ a0
    have x0:=Z00 j2.out 0
    have x1:=Z00 j2.out 1
    have x2:=Z00 j2.out 2
    simp only [List.getElem?_toArray,List.getElem?_cons_zero,List.getElem?_cons_succ] at x0 x1 x2
    have lx:=Z04 j2.out
    obtain⟨W8,v1⟩:∃ W8,W8=w4.alloc (.cells #[.int .i64 q0, .int .i64 q1, .int .i64 q2] 179):=⟨_,rfl⟩
    have y5:W8.heap[w4.heap.size]?=some (.cells #[.int .i64 q0, .int .i64 q1, .int .i64 q2] 179 (0,0)):=v1 ▸ Z0a _ _
    have q4:Below w4.heap.size w4 W8:=v1 ▸ (Below.refl _ _).alloc (Nat.le_refl _) _
    have v4:Hid (∀ j u,([.int .i64 q0, .int .i64 q1, .int .i64 q2]:List Value)[j]?=some u→W8.cell? ((⟨w4.heap.size,0,none⟩:Addr).add j)=some u):=hd_ fun j u hu=>by
     have e:(⟨w4.heap.size,0,none⟩:Addr).add j=⟨w4.heap.size,j,none⟩:=by
      unfold Addr.add;split
      ·next h=>subst h;rfl
      ·simp
     rw [e,Z00 y5]
     simpa using hu
    have e6:=hi.out
    replace q4:=hd_ q4
    have s5:rest.length≤1000000:=by omega
    rw [v1] at v4
    go_wp2_with (first
     | (at_builtin;refine Z7i _ rfl (.tmp 100) (.tmp 102) 113 rfl 0 179 i0 (.agg #[.int .i64 0, .int .i64 0, .int .i64 0]) 3 24 Tryz.underlying113 e6 m6 n6 o6 rfl (by decide) u4 rest.length (Z1h Z1i rest) rfl (World.ownsRow.alloc w0.out _) (.slice (some ⟨w4.heap.size,0,none⟩) 1 1) 1 [.int .i64 q0, .int .i64 q1, .int .i64 q2] rfl ⟨rfl, .inr ⟨_,_,rfl,v4.out⟩⟩ ?c2 ?c3 ?c4 ?c5 ?_))
    case c2=>exact⟨rfl,rfl,rfl⟩
    case c3=>unfold maxLen;omega
    case c4=>omega
    intro v9 w9 d1 j5 z2
    have h3:Chg (fun c=>own2 c=j) w4 w9:=Z10 (v1 ▸ Chg.of_below q4.out) j5 fun q hq=>.inl (i2 q hq)
    have tn:=Turn.extJ (own:=own2) (J:=fun o=>o=j) j h3
    have j6:W8.heap.size=w4.heap.size+1:=by rw [v1];exact World.size_alloc ..
    have y4:ownG Z1i w9 0 179 v9 (rest++[(q0,q1,q2)]):=by
     unfold ownG
     rw [List.length_append,Z1u]
     exact d1
    have k2:=hd_ (show HasI own K j a s1 (out.map MsS.m) P wa w9 v9 (k+1) from ⟨by
     rw [a0.out]
     refine⟨_,v2,o2,l2.out.box hj tn,eo.out,y4,fun x hx=>?_,tr4.out.trans (tn.mono fun o e=>.inr e)⟩
     have v0:=y4.lt Z1i x hx
     rcases z2 with h1 | h1
     ·have h2:=i2 x (h1 ▸ hx)
      have:x<w4.heap.size:=Nat.lt_of_not_le fun hge=>by rw [l2.out.wf x hge] at h2;omega
      rw [Z3k this];exact h2
     ·rw [hx] at h1
      injection h1 with h1
      have:x=W8.heap.size:=by rw [v1,World.size_alloc];exact h1
      exact Z20 (by omega) v0.2⟩)
    clear d1 j5 z2 h3 tn y4 v4 x0 x1 x2 y5;go_wp2
    go_roundw
    case rel=>exact⟨k+1,hlt,by go_num,k2⟩
    case measure=>simp [intOf];omega
   have hgg:=b6
   go_upto_region 13 with (fail)
   refine Z05 (fun _=>False) (.q 0 (.q 1 (.q 2 (.q 3 (.q 4 (.q 5 (.q 6 (.q 7 .fin)))))))) (by kernel_rfl) (by kernel_rfl) ?_
   intro w5 g2 o0
   have e0:=l2.out.grow o0
   have o1:=Z02 j2.out o0
   have tr5:=hd_ (tr4.out.trans (Turn.grow o0 l2.out.wf))
   have j0:=hd_ (w0.out.grow Z1i o0)
   have k0:=Z01 (F:=fun _=>False) (b:=w5) (fun h=>h) (show w5.cell? ⟨a.b,0,none⟩=some (.int .i64 s2.id) from e0.c 0)
   have p0:=Z01 (F:=fun _=>False) (b:=w5) (fun h=>h) (show w5.cell? ⟨nb,0,none⟩=some (.int .i64 q0) from Z00 o1 0)
   replace e0:=hd_ e0;replace o1:=hd_ o1;replace o0:=hd_ o0;replace g2:=hd_ g2;clear l2 j2 tr4 w0;iterate 8 (refine Z0n rfl ?_;go_big_quiet_step (fail);refine wpQuiet_nil ?_)
   clear k0 p0;refine Z0c ?_
   by_cases hid:q0=s2.id
   ·rw [Z2a _ _ _ hc hid] at a0
    dsimp only at a0
    replace a0:=hd_ a0
    have b1:(q0==s2.id)=true:=by simpa using hid
    have b2:decide (q0=s2.id)=true:=by simpa using hid
    replace hid:=hd_ hid;go_upto_region 14 with (fail)
    refine Z05 (fun _=>False) (.q 0 (.q 1 (.q 2 (.q 3 (.q 4 (.q 5 (.q 6 (.q 7 (.q 8 (.q 9 (.cut (.l 10 .fin)))))))))))) (by kernel_rfl) (by kernel_rfl) ?_
    intro w6 i3 r0
    have l0:=e0.out.grow r0
    have v0:=Z02 o1.out r0
    have tr6:=tr5.out.trans (Turn.grow r0 e0.out.wf)
    have b0:=j0.out.grow Z1i r0
    have hG:=hd_ (Zjb l0 q1 s2.com)
    have q6:=Z01 (F:=fun _=>False) (b:=w6) (fun h=>h) (show w6.cell? ⟨a.b,16,none⟩=some (Z09 a.f) from l0.c 16)
    have r1:=Z01 (F:=fun _=>False) (b:=w6) (fun h=>h) (show w6.cell? ⟨a.b,10,none⟩=some (.int .i64 s2.com) from l0.c 10)
    have p1:=Z01 (F:=fun _=>False) (b:=w6) (fun h=>h) (show w6.cell? ⟨nb,1,none⟩=some (.int .i64 q1) from Z00 v0 1)
    replace l0:=hd_ l0;replace v0:=hd_ v0;replace r0:=hd_ r0;replace i3:=hd_ i3;replace tr6:=hd_ tr6;replace b0:=hd_ b0;clear e0 o1 tr5 j0;iterate 10 (refine Z0n rfl ?_;go_big_quiet_step (fail);refine wpQuiet_nil ?_)
    clear q6 r1 p1;refine Z0h Z1j ?_;refine Z0j rfl (by kernel_rfl) ?_;intro K1 hK;go_simp
    refine hG.out.mono ?_
    rintro r w7 ⟨⟨bb,rfl⟩,f0,t7⟩
    refine hK _ _ (Z0l t7) ?_
    clear hK K1 hG;refine Z0c ?_
    have k2:=hd_ (show HasI own K j a s1 (out.map MsS.m) P wa w7 u4 (k+1) from ⟨by
     rw [a0.out]
     exact⟨own2,v2,o2,f0,eo.out,b0.out.chg Z1i t7.chg fun x hx e2=>(by have:=i2 x hx;omega),i2,tr6.out.trans (t7.mono fun o e=>.inl (by unfold JK;omega))⟩⟩)
    clear f0 t7 l0 v0 tr6 b0;go_wp2
    go_roundw
    case rel=>exact⟨k+1,hlt,by go_num,k2⟩
    case measure=>simp [intOf];omega
   ·rw [Z2b _ _ _ hc hid] at a0
    dsimp only at a0
    replace a0:=hd_ a0
    have b1:(q0==s2.id)=false:=by simpa using hid
    have b2:decide (q0=s2.id)=false:=by simpa using hid
    replace hid:=hd_ hid;go_upto_region 10 with (fail)
    refine Z05 (fun _=>False) (.q 0 (.q 1 (.q 2 (.q 3 (.q 4 (.q 5 (.q 6 (.q 7 (.q 8 (.q 9 (.q 10 (.q 11 (.q 12 (.l 13 (.cut (.l 14 .fin)))))))))))))))) (by kernel_rfl) (by kernel_rfl) ?_
    intro w6 i3 r0
    have l0:=e0.out.grow r0
    have v0:=Z02 o1.out r0
    have tr6:=tr5.out.trans (Turn.grow r0 e0.out.wf)
    have b0:=j0.out.grow Z1i r0
    have r5:o2.length=out.length+o3.length:=by have:=congrArg List.length eo.out;simpa using this
    have hG:=hd_ (Ze5 own2 K { a with ov:=v2 } s2 o2 ⟨9,0,q0,0,s2.last,0,0,0,[],s2.com,q1,0,false⟩ none 0 w6 l0 (rdE_nil1 _) (fun h=>by simp at h) (by omega))
    have p6:=Z01 (F:=fun _=>False) (b:=w6) (fun h=>h) (show w6.cell? ⟨a.b,11,none⟩=some (.int .i64 s2.last) from l0.c 11)
    have r1:=Z01 (F:=fun _=>False) (b:=w6) (fun h=>h) (show w6.cell? ⟨a.b,10,none⟩=some (.int .i64 s2.com) from l0.c 10)
    have p0:=Z01 (F:=fun _=>False) (b:=w6) (fun h=>h) (show w6.cell? ⟨nb,0,none⟩=some (.int .i64 q0) from Z00 v0 0)
    have p1:=Z01 (F:=fun _=>False) (b:=w6) (fun h=>h) (show w6.cell? ⟨nb,1,none⟩=some (.int .i64 q1) from Z00 v0 1)
    replace l0:=hd_ l0;replace v0:=hd_ v0;replace r0:=hd_ r0;replace i3:=hd_ i3;replace tr6:=hd_ tr6;replace b0:=hd_ b0;replace r5:=hd_ r5;clear e0 o1 tr5 j0;iterate 13 (refine Z0n rfl ?_;go_big_quiet_step (fail);refine wpQuiet_nil ?_)
    clear p6 r1 p1 p0;refine Z0j rfl (by kernel_rfl) ?_;intro K1 hK;go_simp
    refine hK _ _ (Chg.refl _ _) ?_
    clear hK K1;refine Z0h Z1j ?_;refine Z0j rfl (by kernel_rfl) ?_;intro K1 hK;go_simp
    refine hG.out.mono ?_
    rintro r w7 ⟨rfl,own7,v7,f0,t7⟩
    refine hK _ _ (Z0l t7) ?_
    clear hK K1 hG;refine Z0c ?_
    have k2:=hd_ (show HasI own K j a s1 (out.map MsS.m) P wa w7 u4 (k+1) from ⟨by
     rw [a0.out]
     refine⟨own7,v7,_,f0,?_,b0.out.chg Z1i t7.chg fun x hx e2=>(by have:=i2 x hx;omega),fun x hx=>(t7.old x (b0.out.lt Z1i x hx).2).trans (i2 x hx),tr6.out.trans (t7.mono fun o e=>.inl (by unfold JK;omega))⟩
     rw [List.map_append,eo.out,List.append_assoc]
     rfl⟩)
    clear f0 t7 l0 v0 tr6 b0;go_wp2
    go_roundw
    case rel=>exact⟨k+1,hlt,by go_num,k2⟩
    case measure=>simp [intOf];omega
  ·obtain rfl:k=s1.asked.length:=by omega
   obtain⟨own2,v2,o2,hN,_,g0,_,_⟩:=hJ.out.ex
   obtain⟨ow,aw,ot,f1,f2,f3,f4⟩:=hJ.out.fin hj f6
   obtain⟨ado,nn,cpo,k6⟩:∃ ad n c,u4=.slice ad n c:=by
    obtain⟨x,c,e⟩:=(g0.rd Z1i).len
    exact⟨x,_,c,e⟩
   have q32:wr.cell? ⟨a.b,32,none⟩=some (.slice ada s1.asked.length a6):=((Z00 hN.blk 32).trans (Z6f _ _ hN.ears)).trans (congrArg some y1.out)
   have z32:=Z03 hN.blk 32
   have l32:=hN.lt
   obtain⟨We,g5⟩:∃ W,W=wr.setCell ⟨a.b,32,none⟩ u4:=⟨_,rfl⟩
   rw [← g5] at f1 f4
   have f5:=hd_ (ta.out.trans f4)
   replace f1:=hd_ f1;replace f2:=hd_ f2;clear hN f4 g0;subst k6;go_wp2
   go_end0
   rw [← g5,e.out]
   exact⟨rfl,ow,aw,ot,f1.out,f2.out,f3,f5.out⟩
end
end
section
open Go.RowKit
section
variable {own:Nat→Nat} {K:Nat} {w:World} {a:NdAt} {s:Nd} {out:List MsS}
theorem Zd7 (c:Nat) (h:NdO own K w a s out) (hok:Okg c s) (hc:c≤900000) (m:Ms) (hk6:¬ m.kind=6) (hk7:¬ m.kind=7) (hk8:¬ m.kind=8) (hk10:¬ m.kind=10) (sa:Option Addr) (sc:Nat) (hl:out.length≤1000000) :
  Calls Tryz.prog 169 #[Z09 a.b,Z0w m (.slice sa m.ents.length sc)] w fun r w'=>r=.returned (.tuple #[])∧Stp own K w a w' (s.serve m).1 (out.map MsS.m++(s.serve m).2):=by
 have h16:=h.r.k16
 obtain⟨k,f,t,b,vi,la,me,po,es,co,nu,cl,y⟩:=m
 dsimp only at *
 obtain⟨W0,a0⟩:∃ W,W=w.alloc (.cells #[.int .i64 k, .int .i64 f, .int .i64 t, .int .i64 b, .int .i64 vi, .int .i64 la, .int .i64 me, .int .i64 po, .slice sa es.length sc, .int .i64 co, .int .i64 nu, .int .i64 cl, .bool y] 37):=⟨_,rfl⟩
 have c0:Below w.heap.size w W0:=a0 ▸ (Below.refl _ _).alloc (Nat.le_refl _) _
 obtain⟨mb,b0⟩:∃ mb,mb=w.heap.size:=⟨_,rfl⟩
 have e0:W0.heap[mb]?=some (.cells #[.int .i64 k, .int .i64 f, .int .i64 t, .int .i64 b, .int .i64 vi, .int .i64 la, .int .i64 me, .int .i64 po, .slice sa es.length sc, .int .i64 co, .int .i64 nu, .int .i64 cl, .bool y] 37 (0,0)):=a0 ▸ b0 ▸ Z0a _ _
 have d0:=h.grow c0
 have hmo:own mb=0:=h.wf mb (by omega)
 have t0:=hd_ (Turn.grow (J:=JK K) (own:=own) c0 h.wf)
 obtain⟨R,hR⟩:∃ R,R=s.serve ⟨k,f,t,b,vi,la,me,po,es,co,nu,cl,y⟩:=⟨_,rfl⟩
 rw [← hR]
 have e:R=(s,[]):=by
  rw [hR]
  unfold Nd.serve
  have b6:(k==(6:Int))=false:=by simpa using hk6
  have b7:(k==(7:Int))=false:=by simpa using hk7
  have b8:(k==(8:Int))=false:=by simpa using hk8
  have f0:(k==(10:Int))=false:=by simpa using hk10
  simp only [b6,b7,b8,f0,Bool.false_eq_true,if_false]
 replace hR:=hd_ hR;replace e:=hd_ e
 have m0:=Z00 e0 0
 simp only [List.getElem?_toArray,List.getElem?_cons_zero] at m0
 have lm0:=Z04 e0
 replace d0:=hd_ d0;clear c0
 go_enter Tryz.func169,Tryz.ntmps169
 go_upto_region 1 with (fail)
 rw [← a0,← b0]
 replace a0:=hd_ a0;replace b0:=hd_ b0;replace h:=hd_ h;go_wp2
 go_end0
 rw [e.out,List.append_nil]
 exact⟨rfl,d0.out.stp (.refl a) t0.out⟩
theorem Zd8 (c:Nat) (h:NdO own K w a s out) (hok:Okg c s) (hc:c≤900000) (m:Ms) (hk:m.kind=10) (sa:Option Addr) (sc:Nat) (hl:out.length≤1000000) :
  Calls Tryz.prog 169 #[Z09 a.b,Z0w m (.slice sa m.ents.length sc)] w fun r w'=>r=.returned (.tuple #[])∧Stp own K w a w' (s.serve m).1 (out.map MsS.m++(s.serve m).2):=by
 have h16:=h.r.k16
 obtain⟨k,f,t,b,vi,la,me,po,es,co,nu,cl,y⟩:=m
 dsimp only at *
 subst hk
 obtain⟨W0,b0⟩:∃ W,W=w.alloc (.cells #[.int .i64 10, .int .i64 f, .int .i64 t, .int .i64 b, .int .i64 vi, .int .i64 la, .int .i64 me, .int .i64 po, .slice sa es.length sc, .int .i64 co, .int .i64 nu, .int .i64 cl, .bool y] 37):=⟨_,rfl⟩
 have i0:Below w.heap.size w W0:=b0 ▸ (Below.refl _ _).alloc (Nat.le_refl _) _
 obtain⟨mb,g0⟩:∃ mb,mb=w.heap.size:=⟨_,rfl⟩
 have e0:W0.heap[mb]?=some (.cells #[.int .i64 10, .int .i64 f, .int .i64 t, .int .i64 b, .int .i64 vi, .int .i64 la, .int .i64 me, .int .i64 po, .slice sa es.length sc, .int .i64 co, .int .i64 nu, .int .i64 cl, .bool y] 37 (0,0)):=b0 ▸ g0 ▸ Z0a _ _
 have f0:=h.grow i0
 have hmo:own mb=0:=h.wf mb (by omega)
 have t0:=hd_ (Turn.grow (J:=JK K) (own:=own) i0 h.wf)
 obtain⟨R,hR⟩:∃ R,R=s.serve ⟨10,f,t,b,vi,la,me,po,es,co,nu,cl,y⟩:=⟨_,rfl⟩
 rw [← hR]
 have e:R=(s,[{ s.ms 11 f with num:=nu,view:=s.last,mem:=s.mem,ents:=s.L,com:=s.com,yes:=true }]):=hR
 replace hR:=hd_ hR;replace e:=hd_ e
 have m0:=Z00 e0 0
 simp only [List.getElem?_toArray,List.getElem?_cons_zero] at m0
 have x0:=Z04 e0
 have h60:=hok.lg
 replace f0:=hd_ f0;replace e0:=hd_ e0;clear i0
 go_enter Tryz.func169,Tryz.ntmps169
 go_upto_region 1 with (fail)
 rw [← b0,← g0]
 replace b0:=hd_ b0;replace g0:=hd_ g0;replace h:=hd_ h;go_upto_region 13 with (fail)
 refine Z05 (fun _=>False) (.q 0 (.q 1 (.q 2 (.q 3 (.q 4 (.q 5 (.q 6 (.q 7 (.q 8 (.q 9 (.q 10 (.q 11 (.q 12 (.q 13 (.q 14 (.q 15 (.q 16 (.q 18 (.q 19 (.q 20 (.q 21 (.l 17 (.l 22 (.cut (.l 23 .fin))))))))))))))))))))))))) (by kernel_rfl) (by kernel_rfl) ?_
 intro w1 p0 c0
 have a0:=f0.out.grow c0
 have k0:=Z02 e0.out c0
 have k9:=Z01 (F:=fun _=>False) (b:=w1) (fun h=>h) (show w1.cell? ⟨a.b,9,none⟩=some (Z09 a.l) from a0.c 9)
 have s0:=Z01 (F:=fun _=>False) (b:=w1) (fun h=>h) (show w1.cell? ⟨a.b,10,none⟩=some (.int .i64 s.com) from a0.c 10)
 have v0:=Z01 (F:=fun _=>False) (b:=w1) (fun h=>h) (show w1.cell? ⟨a.b,11,none⟩=some (.int .i64 s.last) from a0.c 11)
 have w0:=Z01 (F:=fun _=>False) (b:=w1) (fun h=>h) (show w1.cell? ⟨a.b,12,none⟩=some (.int .i64 s.mem) from a0.c 12)
 have p1:=Z01 (F:=fun _=>False) (b:=w1) (fun h=>h) (show w1.cell? ⟨mb,1,none⟩=some (.int .i64 f) from Z00 k0 1)
 have p10:=Z01 (F:=fun _=>False) (b:=w1) (fun h=>h) (show w1.cell? ⟨mb,10,none⟩=some (.int .i64 nu) from Z00 k0 10)
 have t1:=hd_ (t0.out.trans (Turn.grow (J:=JK K) c0 f0.out.wf))
 have r0:=hd_ a0.r.lg.rd
 replace a0:=hd_ a0;replace c0:=hd_ c0;clear p0 m0 x0 k0;iterate 21 (refine Z0n rfl ?_;go_big_quiet_step (fail);refine wpQuiet_nil ?_)
 clear k9 s0 v0 w0 p1 p10;refine Z0j rfl (by kernel_rfl) ?_;intro K1 hK;go_simp
 refine (Z19 a.l s.L 0 _ r0.out (by omega)).mono ?_
 rintro r w2 ⟨v2,rfl,h0,d0⟩
 have o0:Z4o s.L 0=s.L:=by unfold Z4o;rw [if_neg (by omega)];rfl
 rw [o0] at h0
 refine hK _ _ (.of_below d0) ?_
 clear hK K1
 have l0:=a0.out.grow d0
 have n0:pubE own w2 v2 s.L:=pubE.new h0 a0.out.wf
 have t2:=hd_ (t1.out.trans (Turn.grow (J:=JK K) d0 a0.out.wf))
 obtain⟨ad,cp,rfl⟩:=h0.rd.len
 refine Z0j rfl (by kernel_rfl) ?_;intro K1 hK;go_simp
 refine hK _ _ (.of_below d0) ?_
 clear hK K1;refine Z0h Z1j ?_;refine Z0j rfl (by kernel_rfl) ?_;intro K1 hK;go_simp
 obtain⟨M,hM⟩:∃ M:Ms,M=⟨11,0,f,0,s.last,0,s.mem,0,s.L,s.com,nu,0,true⟩:=⟨_,rfl⟩
 have hS:=Z6n l0 M ad cp (by rw [hM];exact n0) (by omega)
 rw [hM] at hS
 refine hS.mono ?_
 rintro r w4 ⟨rfl,own4,a4,o4,j0,q0,e4,t4⟩
 refine hK _ _ (Z0l t4) ?_
 clear hK K1 hS;refine Z0c ?_
 have t5:=hd_ (t2.out.trans t4)
 replace j0:=hd_ j0;replace hM:=hd_ hM;clear t4 l0 n0 h0 d0;go_wp2
 go_end0
 rw [e.out]
 exact⟨rfl,own4,a4,o4,j0.out,q0,e4,t5.out⟩
theorem Zgb (c:Nat) (h:NdO own K w a s out) (hok:Okg c s) (hc:c≤900000) (m:Ms) (hk:m.kind=6) (sa:Option Addr) (sc:Nat) (hl:out.length≤1000000) :
  Calls Tryz.prog 169 #[Z09 a.b,Z0w m (.slice sa m.ents.length sc)] w fun r w'=>r=.returned (.tuple #[])∧Stp own K w a w' (s.serve m).1 (out.map MsS.m++(s.serve m).2):=by
 have h16:=h.r.k16
 obtain⟨k,f,t,b,vi,la,me,po,es,co,nu,cl,y⟩:=m
 dsimp only at *
 subst hk
 obtain⟨W0,e0⟩:∃ W,W=w.alloc (.cells #[.int .i64 6, .int .i64 f, .int .i64 t, .int .i64 b, .int .i64 vi, .int .i64 la, .int .i64 me, .int .i64 po, .slice sa es.length sc, .int .i64 co, .int .i64 nu, .int .i64 cl, .bool y] 37):=⟨_,rfl⟩
 have j0:Below w.heap.size w W0:=e0 ▸ (Below.refl _ _).alloc (Nat.le_refl _) _
 obtain⟨mb,i0⟩:∃ mb,mb=w.heap.size:=⟨_,rfl⟩
 have g0:W0.heap[mb]?=some (.cells #[.int .i64 6, .int .i64 f, .int .i64 t, .int .i64 b, .int .i64 vi, .int .i64 la, .int .i64 me, .int .i64 po, .slice sa es.length sc, .int .i64 co, .int .i64 nu, .int .i64 cl, .bool y] 37 (0,0)):=e0 ▸ i0 ▸ Z0a _ _
 have h0:=h.grow j0
 have hmo:own mb=0:=h.wf mb (by omega)
 have t0:=hd_ (Turn.grow (J:=JK K) (own:=own) j0 h.wf)
 obtain⟨R,hR⟩:∃ R,R=s.serve ⟨6,f,t,b,vi,la,me,po,es,co,nu,cl,y⟩:=⟨_,rfl⟩
 rw [← hR]
 obtain⟨g,hg⟩:∃ g,(vi==s.last)=g:=⟨_,rfl⟩
 have e:R=if g then s.hasM ⟨6,f,t,b,vi,la,me,po,es,co,nu,cl,y⟩ else (s,[]):=by rw [hR,← hg];rfl
 replace hR:=hd_ hR;replace e:=hd_ e
 have m0:=Z00 g0 0
 simp only [List.getElem?_toArray,List.getElem?_cons_zero] at m0
 have k0:=Z04 g0
 have h60:=hok.lg
 replace h0:=hd_ h0;replace g0:=hd_ g0;replace hg:=hd_ hg;clear j0
 go_enter Tryz.func169,Tryz.ntmps169
 go_upto_region 1 with (fail)
 rw [← e0,← i0]
 replace e0:=hd_ e0;replace i0:=hd_ i0;replace h:=hd_ h;go_upto_region 3 with (fail)
 refine Z05 (fun _=>False) (.q 0 (.q 1 (.q 2 (.q 3 (.q 4 (.q 5 (.q 6 .fin))))))) (by kernel_rfl) (by kernel_rfl) ?_
 intro w1 l0 f0
 have d0:=h0.out.grow f0
 have b0:=Z02 g0.out f0
 have n0:=Z01 (F:=fun _=>False) (b:=w1) (fun h=>h) (show w1.cell? ⟨a.b,11,none⟩=some (.int .i64 s.last) from d0.c 11)
 have p4:=Z01 (F:=fun _=>False) (b:=w1) (fun h=>h) (show w1.cell? ⟨mb,4,none⟩=some (.int .i64 vi) from Z00 b0 4)
 have t1:=hd_ (t0.out.trans (Turn.grow (J:=JK K) f0 h0.out.wf))
 replace d0:=hd_ d0;replace b0:=hd_ b0;replace f0:=hd_ f0;clear l0 m0 k0;iterate 7 (refine Z0n rfl ?_;go_big_quiet_step (fail);refine wpQuiet_nil ?_)
 clear n0 p4;refine Z0c ?_
 rw [hg.out]
 cases g
 case false=>
  go_wp2
  go_end0
  rw [e.out,if_neg (by decide),List.append_nil]
  exact⟨rfl,d0.out.stp (.refl a) t1.out⟩
 have e1:R=s.hasM ⟨6,f,t,b,vi,la,me,po,es,co,nu,cl,y⟩:=e.out
 have c0:=hd_ (xHas_any d0.out hok.qdok ⟨hok.n3,hok.n7⟩ ⟨hok.a0,hok.a1⟩ hok.lg ⟨6,f,t,b,vi,la,me,po,es,co,nu,cl,y⟩ sa sc hl (by have:=hok.asl;omega))
 rw [← e1] at c0
 replace e1:=hd_ e1
 have m0:=Z00 b0.out 0
 have m1:=Z00 b0.out 1
 have m2:=Z00 b0.out 2
 have m3:=Z00 b0.out 3
 have m4:=Z00 b0.out 4
 have m5:=Z00 b0.out 5
 have m6:=Z00 b0.out 6
 have m7:=Z00 b0.out 7
 have m8:=Z00 b0.out 8
 have m9:=Z00 b0.out 9
 have m10:=Z00 b0.out 10
 have m11:=Z00 b0.out 11
 have m12:=Z00 b0.out 12
 simp only [List.getElem?_toArray,List.getElem?_cons_zero,List.getElem?_cons_succ] at m0 m1 m2 m3 m4 m5 m6 m7 m8 m9 m10 m11 m12
 have k0:=Z04 b0.out
 go_wp2_with fail
 refine c0.out.mono ?_
 rintro r w2 ⟨rfl,own2,a2,o2,h2,h3,h4,h5⟩
 have t2:=hd_ (t1.out.trans h5)
 replace h2:=hd_ h2;clear c0 h5;go_wp2
 go_end0
 exact⟨rfl,own2,a2,o2,h2.out,h3,h4,t2.out⟩
end
end
section
open Go.RowKit
def srvF (f:Int) (s:Nd) (e:Ent):Nd:=if e.frm==f then s.add e else s
theorem Okg.srvF {c:Nat} {s:Nd} (h:Okg c s) (f:Int) (e:Ent):Okg c (srvF f s e):=by
 unfold Go.Proofs.YtbonjbokofkafaaGreat.srvF;split
 ·exact h.add e
 ·exact h
theorem Okg.srvFs {c:Nat} (f:Int):∀ (es:List Ent) {s:Nd},Okg c s→Okg c (es.foldl (Go.Proofs.YtbonjbokofkafaaGreat.srvF f) s)
 | [],s,h=>h
 | e :: es,s,h=>Okg.srvFs f es (h.srvF f e)
section
variable {own:Nat→Nat} {K:Nat} {w:World} {a:NdAt} {s:Nd} {out:List MsS}
theorem Zd9 (c:Nat) (h:NdO own K w a s out) (hok:Okg c s) (hc:c≤900000) (m:Ms) (hk:m.kind=7) (sa:Option Addr) (sc:Nat) (hl:out.length≤1000000) (hp:pubE own w (.slice sa m.ents.length sc) m.ents) :
  Calls Tryz.prog 169 #[Z09 a.b,Z0w m (.slice sa m.ents.length sc)] w fun r w'=>r=.returned (.tuple #[])∧Stp own K w a w' (s.serve m).1 (out.map MsS.m++(s.serve m).2):=by
 have q0:=h.r.k16
 obtain⟨k,f,t,b,vi,la,me,po,es,co,nu,cl,y⟩:=m
 dsimp only at *
 subst hk
 obtain⟨W0,i0⟩:∃ W,W=w.alloc (.cells #[.int .i64 7, .int .i64 f, .int .i64 t, .int .i64 b, .int .i64 vi, .int .i64 la, .int .i64 me, .int .i64 po, .slice sa es.length sc, .int .i64 co, .int .i64 nu, .int .i64 cl, .bool y] 37):=⟨_,rfl⟩
 have k0:Below w.heap.size w W0:=i0 ▸ (Below.refl _ _).alloc (Nat.le_refl _) _
 obtain⟨mb,o0⟩:∃ mb,mb=w.heap.size:=⟨_,rfl⟩
 have h0:W0.heap[mb]?=some (.cells #[.int .i64 7, .int .i64 f, .int .i64 t, .int .i64 b, .int .i64 vi, .int .i64 la, .int .i64 me, .int .i64 po, .slice sa es.length sc, .int .i64 co, .int .i64 nu, .int .i64 cl, .bool y] 37 (0,0)):=i0 ▸ o0 ▸ Z0a _ _
 have s0:=h.grow k0
 have g1:own mb=0:=h.wf mb (by omega)
 have t0:=hd_ (Turn.grow (J:=JK K) (own:=own) k0 h.wf)
 obtain⟨R,hR⟩:∃ R,R=s.serve ⟨7,f,t,b,vi,la,me,po,es,co,nu,cl,y⟩:=⟨_,rfl⟩
 rw [← hR]
 have e:R=(es.foldl (srvF f) s,[]):=hR
 replace hR:=hd_ hR;replace e:=hd_ e
 have v0:=hp.turn (Turn.grow (J:=JK K) (own:=own) k0 h.wf) (jk0 q0)
 have m0:=Z00 h0 0
 have m8:=Z00 h0 8
 simp only [List.getElem?_toArray,List.getElem?_cons_zero,List.getElem?_cons_succ] at m0 m8
 have lm0:=Z04 h0
 obtain⟨hrl,j1⟩:es.length≤sc∧sc≤maxLen:=by obtain⟨_,_,e,h1,h2,_⟩:=v0.1;injection e with e1 e2 e3;subst e3;exact⟨h1,h2⟩
 unfold maxLen at j1
 have d1:Hid (NdO own K W0 a ((es.take 0).foldl (srvF f) s) out∧own mb=0∧W0.heap[mb]?=some (.cells #[.int .i64 7, .int .i64 f, .int .i64 t, .int .i64 b, .int .i64 vi, .int .i64 la, .int .i64 me, .int .i64 po, .slice sa es.length sc, .int .i64 co, .int .i64 nu, .int .i64 cl, .bool y] 37 (0,0))∧Turn (JK K) own own w W0):=hd_ ⟨s0,g1,h0,t0.out⟩
 replace s0:=hd_ s0;replace h0:=hd_ h0;replace v0:=hd_ v0;clear k0
 go_enter Tryz.func169,Tryz.ntmps169
 go_upto_region 1 with (fail)
 rw [← i0,← o0]
 replace i0:=hd_ i0;replace o0:=hd_ o0;replace h:=hd_ h;go_wp2
 go_loopw [25] (fun i wr=>∃ k:Nat,k≤es.length∧i=.int .i64 k∧Hid (∃ own2,NdO own2 K wr a ((es.take k).foldl (srvF f) s) out∧own2 mb=0∧wr.heap[mb]?=some (.cells #[.int .i64 7, .int .i64 f, .int .i64 t, .int .i64 b, .int .i64 vi, .int .i64 la, .int .i64 me, .int .i64 po, .slice sa es.length sc, .int .i64 co, .int .i64 nu, .int .i64 cl, .bool y] 37 (0,0))∧Turn (JK K) own own2 w wr)) (fun i _=>es.length-(intOf i).toNat)
 case atStart=>exact⟨0,Nat.zero_le _,rfl,hd_ ⟨own,d1.out⟩⟩
 case round=>
  obtain⟨k,hk,rfl,hJ⟩:=hrel
  by_cases hlt:k<es.length
  ·obtain⟨own2,hN,e0,hm,tr⟩:=hJ.out
   have a0:=Okg.srvFs f (es.take k) hok
   have i1:=(hp.turn tr (jk0 q0)).1
   obtain⟨_,_,ee,_,_,b1⟩:=i1
   injection ee with e1 e2 e3
   subst e1 e3
   obtain⟨lb,off,rfl,hc⟩:=b1 (by omega)
   have z0:=hc k hlt
   obtain⟨x,hx⟩:∃ x,x=es[k]:=⟨_,rfl⟩
   rw [← hx] at z0
   have b0:(es.take (k+1)).foldl (srvF f) s=srvF f ((es.take k).foldl (srvF f) s) x:=by
    rw [List.take_add_one,List.getElem?_eq_getElem hlt,Option.toList_some,List.foldl_append,← hx];rfl
   obtain⟨s2,w0⟩:∃ s2,(es.take k).foldl (srvF f) s=s2:=⟨_,rfl⟩
   rw [w0] at hN b0 a0
   obtain⟨c0,c1,c2,c3,c4,c5,c6⟩:=z0
   obtain⟨W1,j0⟩:∃ W,W=wr.alloc (.cells #[.int .i64 x.frm, .int .i64 x.boot, .int .i64 x.seq, .int .i64 x.ord, .int .i64 x.lev, .int .i64 x.stamp, .string x.data] 134):=⟨_,rfl⟩
   have l0:Below wr.heap.size wr W1:=j0 ▸ (Below.refl _ _).alloc (Nat.le_refl _) _
   obtain⟨nb,p0⟩:∃ nb,nb=wr.heap.size:=⟨_,rfl⟩
   have d0:W1.heap[nb]?=some (.cells #[.int .i64 x.frm, .int .i64 x.boot, .int .i64 x.seq, .int .i64 x.ord, .int .i64 x.lev, .int .i64 x.stamp, .string x.data] 134 (0,0)):=j0 ▸ p0 ▸ Z0a _ _
   have n0:=hN.grow l0
   have g0:=Z02 hm l0
   have tr1:=hd_ (tr.trans (Turn.grow l0 hN.wf))
   have f0:=hd_ (Zej n0 a0.qdok a0.lg x)
   have y0:=Z00 d0 0
   have y1:=Z00 d0 1
   have y2:=Z00 d0 2
   have y3:=Z00 d0 3
   have y4:=Z00 d0 4
   have y5:=Z00 d0 5
   have y6:=Z00 d0 6
   have m1:=Z00 g0 1
   simp only [List.getElem?_toArray,List.getElem?_cons_zero,List.getElem?_cons_succ] at y0 y1 y2 y3 y4 y5 y6 m1
   have ly:=Z04 d0
   have lm:=Z04 g0
   replace hx:=hd_ hx;replace b0:=hd_ b0;replace w0:=hd_ w0;replace d0:=hd_ d0;replace n0:=hd_ n0;replace g0:=hd_ g0;replace a0:=hd_ a0;clear hc b1 hN hm tr l0;go_upto_region 9 with (fail)
   rw [← j0,← p0]
   replace j0:=hd_ j0;replace p0:=hd_ p0;clear c0 c1 c2 c3 c4 c5 c6
   obtain⟨g,hg⟩:∃ g,(x.frm==f)=g:=⟨_,rfl⟩
   have a1:=hd_ (show srvF f s2 x=if g then s2.add x else s2 from by rw [← hg];rfl)
   replace hg:=hd_ hg
   cases g
   case false=>
    have r0:Hid (NdO own2 K W1 a ((es.take (k+1)).foldl (srvF f) s) out∧own2 mb=0∧W1.heap[mb]?=some (.cells #[.int .i64 7, .int .i64 f, .int .i64 t, .int .i64 b, .int .i64 vi, .int .i64 la, .int .i64 me, .int .i64 po, .slice (some ⟨lb,off,none⟩) es.length sc, .int .i64 co, .int .i64 nu, .int .i64 cl, .bool y] 37 (0,0))∧Turn (JK K) own own2 w W1):=hd_ ⟨by rw [b0.out,a1.out];exact n0.out,e0,g0.out,tr1.out⟩
    clear f0
    have f1:=hg.out
    go_wp2
    go_roundw
    case rel=>exact⟨k+1,hlt,by go_num,hd_ ⟨own2,r0.out⟩⟩
    case measure=>simp [intOf];omega
   have f1:=hg.out
   go_wp2_with fail
   refine f0.out.mono ?_
   rintro r w2 ⟨rfl,own3,x0,t3⟩
   have r0:Hid (NdO own3 K w2 a ((es.take (k+1)).foldl (srvF f) s) out∧own3 mb=0∧w2.heap[mb]?=some (.cells #[.int .i64 7, .int .i64 f, .int .i64 t, .int .i64 b, .int .i64 vi, .int .i64 la, .int .i64 me, .int .i64 po, .slice (some ⟨lb,off,none⟩) es.length sc, .int .i64 co, .int .i64 nu, .int .i64 cl, .bool y] 37 (0,0))∧Turn (JK K) own own3 w w2):=hd_ ⟨by rw [b0.out,a1.out];exact x0,(t3.old mb (Z04 g0.out)).trans e0,Z0g g0.out t3.chg (by rw [e0];exact jk0 q0),tr1.out.trans t3⟩
   clear y0 y1 y2 y3 y4 y5 y6 m1 ly lm f0 x0 t3;go_wp2
   go_roundw
   case rel=>exact⟨k+1,hlt,by go_num,hd_ ⟨own3,r0.out⟩⟩
   case measure=>simp [intOf];omega
  ·obtain rfl:k=es.length:=by omega
   obtain⟨own2,hN,e0,hm,tr⟩:=hJ.out
   rw [List.take_length] at hN
   replace hN:=hd_ hN;replace hm:=hd_ hm;replace tr:=hd_ tr;go_wp2
   go_end0
   rw [e.out,List.append_nil]
   exact⟨rfl,hN.out.stp (.refl a) tr.out⟩
end
end
section
open Go.RowKit
section
variable {own:Nat→Nat} {K:Nat} {w:World} {a:NdAt} {s:Nd} {out:List MsS}
theorem Zgc (c:Nat) (h:NdO own K w a s out) (hok:Okg c s) (hc:c≤900000) (m:Ms) (hk:m.kind=8) (sa:Option Addr) (sc:Nat) (hl:out.length≤1000000) :
  Calls Tryz.prog 169 #[Z09 a.b,Z0w m (.slice sa m.ents.length sc)] w fun r w'=>r=.returned (.tuple #[])∧Stp own K w a w' (s.serve m).1 (out.map MsS.m++(s.serve m).2):=by
 have h16:=h.r.k16
 obtain⟨k,f,t,b,vi,la,me,po,es,co,nu,cl,y⟩:=m
 dsimp only at *
 subst hk
 obtain⟨W0,y0⟩:∃ W,W=w.alloc (.cells #[.int .i64 8, .int .i64 f, .int .i64 t, .int .i64 b, .int .i64 vi, .int .i64 la, .int .i64 me, .int .i64 po, .slice sa es.length sc, .int .i64 co, .int .i64 nu, .int .i64 cl, .bool y] 37):=⟨_,rfl⟩
 have k1:Below w.heap.size w W0:=y0 ▸ (Below.refl _ _).alloc (Nat.le_refl _) _
 obtain⟨mb,h1⟩:∃ mb,mb=w.heap.size:=⟨_,rfl⟩
 have v0:W0.heap[mb]?=some (.cells #[.int .i64 8, .int .i64 f, .int .i64 t, .int .i64 b, .int .i64 vi, .int .i64 la, .int .i64 me, .int .i64 po, .slice sa es.length sc, .int .i64 co, .int .i64 nu, .int .i64 cl, .bool y] 37 (0,0)):=y0 ▸ h1 ▸ Z0a _ _
 have b0:=h.grow k1
 have hmo:own mb=0:=h.wf mb (by omega)
 have t0:=hd_ (Turn.grow (J:=JK K) (own:=own) k1 h.wf)
 obtain⟨R,hR⟩:∃ R,R=s.serve ⟨8,f,t,b,vi,la,me,po,es,co,nu,cl,y⟩:=⟨_,rfl⟩
 rw [← hR]
 obtain⟨i0,hi,b2,c2,d2⟩:=info_parts Zje
 replace hi:=hd_ hi
 obtain⟨g,hg⟩:∃ g,(vi==s.last&&Z18 s.mem.toNat f&&decide (s.asked.length<64))=g:=⟨_,rfl⟩
 have e:R=(if g then { s with asked:=s.asked++[(f,nu,Zj5 s.q+1)] } else s,[]):=by
  rw [hR,← hg]
  unfold Nd.serve Zj5
  rfl
 replace hR:=hd_ hR;replace e:=hd_ e
 have m0:=Z00 v0 0
 have m1:=Z00 v0 1
 have m4:=Z00 v0 4
 simp only [List.getElem?_toArray,List.getElem?_cons_zero,List.getElem?_cons_succ] at m0 m1 m4
 have m2:=Z04 v0
 have q1:W0.cell? ⟨a.b,11,none⟩=some (.int .i64 s.last):=b0.c 11
 have r1:W0.cell? ⟨a.b,12,none⟩=some (.int .i64 s.mem):=b0.c 12
 obtain⟨av,s0⟩:∃ av,a.av=av:=⟨_,rfl⟩
 have s1:W0.cell? ⟨a.b,32,none⟩=some av:=by rw [b0.c 32,Z6f a s b0.ears,s0]
 obtain⟨ada,d1,a2⟩:∃ ad c,av=.slice ad s.asked.length c:=by rw [← s0];exact (b0.r.ask.1.rd Z1i).len
 subst a2
 have l2:=b0.lt
 obtain⟨i,e1⟩:∃ i,Z18 s.mem.toNat f=i:=⟨_,rfl⟩
 have HI:Hid (∀ y,Calls Tryz.prog 128 #[.int .i64 s.mem, .int .i64 f] (Z1c W0 y) fun r w'=>r=.returned (.bool i)∧∃ z,w'=Z1c W0 z):=hd_ fun y=>by
  rw [← e1];exact Z0o (Z3g s.mem f _ ⟨hok.m0,hok.m1⟩)
 rw [e1] at hg
 have x1:=hok.asl
 have hqd:=hok.qdok
 replace s0:=hd_ s0;replace e1:=hd_ e1;replace hg:=hd_ hg;replace b0:=hd_ b0;replace v0:=hd_ v0;clear k1
 go_enter Tryz.func169,Tryz.ntmps169
 go_upto_region 1 with (fail)
 rw [← y0,← h1]
 replace y0:=hd_ y0;replace h1:=hd_ h1;replace h:=hd_ h;go_upto_region 15 with (fail)
 have f2:=Z07 q1
 have g2:=Z07 r1
 have o1:=Z07 s1
 have i2:=Z07 m1
 have j2:=Z07 m4
 go_cut [89] (fun z wx=>z=.bool g∧Below W0.heap.size W0 wx)
 case first=>
  by_cases g1:vi=s.last
  ·have g1':(vi==s.last)=true:=by simpa using g1
   replace g1:=hd_ g1
   cases i
   ·refine Z08 (by kernel_rfl) (by kernel_rfl) ?_
    repeat (go_big_quiet_step (first | (go_at_call 128;exact HI.out _)))
    refine wpQuiet_nil ?_
    intro w3 w0
    have l0:=hd_ (Z0e w0)
    clear w0;go_wp2_with fail
    go_meet
    exact⟨by rw [← hg.out,g1'];simp,l0.out⟩
   ·refine Z08 (by kernel_rfl) (by kernel_rfl) ?_
    repeat (go_big_quiet_step (first | (go_at_call 128;exact HI.out _)))
    refine wpQuiet_nil ?_
    intro w3 w0
    have l0:=hd_ (Z0e w0)
    clear w0;go_wp2_with fail
    go_meet
    exact⟨by rw [← hg.out,g1'];simp;omega,l0.out⟩
  ·have g1':(vi==s.last)=false:=by simpa using g1
   replace g1:=hd_ g1
   refine Z08 (by kernel_rfl) (by kernel_rfl) ?_
   repeat (go_big_quiet_step (first | (go_at_call 128;exact HI.out _)))
   refine wpQuiet_nil ?_
   intro w3 w0
   have l0:=hd_ (Z0e w0)
   clear w0;go_wp2_with fail
   go_meet
   exact⟨by rw [← hg.out,g1'];simp,l0.out⟩
 case rest=>
  obtain⟨rfl,l0⟩:=hcut
  rename World=>w3
  have r0:=b0.out.grow l0
  have t3:=hd_ (t0.out.trans (Turn.grow (J:=JK K) l0 b0.out.wf))
  have v1:=hd_ (Z02 v0.out l0)
  clear l0 f2 g2 o1 i2 j2 m0 m1 m4 m2 q1 r1 s1 l2 HI b0 v0 t0
  cases g
  case false=>
   replace r0:=hd_ r0;go_wp2
   go_end0
   rw [e.out,List.append_nil]
   exact⟨rfl,r0.out.stp (.refl a) t3.out⟩
  replace r0:=hd_ r0;go_upto_region 16 with (fail)
  refine Z05 (fun c=>own c=K+11) (.q 0 (.q 1 (.q 2 (.q 3 (.q 4 (.q 5 (.q 6 (.q 7 (.q 8 (.q 9 (.q 10 (.q 11 (.q 12 (.l 13 (.q 14 (.l 15 (.l 16 (.l 17 (.q 18 (.q 19 (.cut (.l 20 .fin)))))))))))))))))))))) (by kernel_rfl) (by kernel_rfl) ?_
  intro w4 y1 z0
  have c0:=r0.out.grow z0
  have f1:=Z02 v1.out z0
  have hob:=c0.r.ob
  have n1:¬ own a.b=K+11:=by omega
  have w1:¬ own mb=K+11:=by omega
  have h2:=Z01 (F:=fun c=>own c=K+11) (b:=w4) n1 (show w4.cell? ⟨a.b,21,none⟩=some (Z3f a.qb) from c0.c 21)
  have o1:=Z01 (F:=fun c=>own c=K+11) (b:=w4) n1 (show w4.cell? ⟨a.b,32,none⟩=some (.slice ada s.asked.length d1) from ((c0.c 32).trans (Z6f a s c0.ears)).trans (congrArg some s0.out))
  have p1:=Z01 (F:=fun c=>own c=K+11) (b:=w4) w1 (show w4.cell? ⟨mb,1,none⟩=some (.int .i64 f) from Z00 f1 1)
  have p10:=Z01 (F:=fun c=>own c=K+11) (b:=w4) w1 (show w4.cell? ⟨mb,10,none⟩=some (.int .i64 nu) from Z00 f1 10)
  have t4:=hd_ (t3.out.trans (Turn.grow (J:=JK K) z0 r0.out.wf))
  have l1:=hd_ (ndQLast c0)
  obtain⟨lq,a1⟩:∃ lq,Zj5 s.q=lq:=⟨_,rfl⟩
  rw [a1] at l1
  have z1:0≤lq∧lq≤900000:=by
   rw [← a1]
   unfold Zj5
   cases hq:s.q with
   | none=>simp
   | some q=>obtain⟨_,_,_,_,a5,a6,_⟩:=hok.qd q hq;dsimp only;omega
  replace c0:=hd_ c0;replace f1:=hd_ f1;replace z0:=hd_ z0;replace a1:=hd_ a1;clear y1 r0 v1 t3;iterate 13 (refine Z0n rfl ?_;go_big_quiet_step (fail);refine wpQuiet_nil ?_)
  clear h2 o1 p1 p10;refine Z0j rfl (by kernel_rfl) ?_;intro K1 hK;go_simp
  refine l1.out.mono ?_
  rintro r wx ⟨rfl,rfl⟩
  refine hK _ _ (Chg.refl _ _) ?_
  clear hK K1 l1;refine Z0n rfl ?_;go_big_quiet_step (fail);refine wpQuiet_nil ?_;refine Z0j rfl (by kernel_rfl) ?_;intro K1 hK;go_simp
  refine hK _ _ (Chg.refl _ _) ?_
  clear hK K1;refine Z0j rfl (by kernel_rfl) ?_;intro K1 hK;go_simp
  obtain⟨W10,d0⟩:∃ W,W=w4.alloc (.cells #[.int .i64 f, .int .i64 nu, .int .i64 (lq+1)] 179):=⟨_,rfl⟩
  have x0:Below w4.heap.size w4 W10:=d0 ▸ (Below.refl _ _).alloc (Nat.le_refl _) _
  obtain⟨nc,i1⟩:∃ nc,nc=w4.heap.size:=⟨_,rfl⟩
  have b1:W10.heap[nc]?=some (.cells #[.int .i64 f, .int .i64 nu, .int .i64 (lq+1)] 179 (0,0)):=d0 ▸ i1 ▸ Z0a _ _
  have j0:Chg (fun c=>own c=K+11) w4 W10:=.of_below x0
  rw [← d0,← i1]
  replace d0:=hd_ d0;replace i1:=hd_ i1
  refine hK _ _ j0 ?_
  clear hK K1
  have p0:=c0.out.r.ask
  have e0:ownG Z1i W10 0 179 (.slice ada s.asked.length d1) s.asked:=by rw [← s0.out];exact p0.1.grow Z1i x0
  have t1:=hi.out
  refine Z0j rfl (by kernel_rfl) ?_;intro K1 hK
  refine Z6e _ (.tmp 94) (.tmp 106) 113 rfl 0 179 i0 (.agg #[.int .i64 0, .int .i64 0, .int .i64 0]) 3 24 Tryz.underlying113 t1 b2 c2 d2 rfl (by decide) (.slice ada s.asked.length d1) s.asked.length (Z1h Z1i s.asked) rfl e0 (.slice (some ⟨nc,0,none⟩) 1 1) 1 _ rfl (Z5y b1 rfl) ?c1 (by unfold maxLen;omega) (by omega) (Nat.zero_le _) ?_
  case c1=>
   intro u hu
   simp only [List.mem_cons,List.not_mem_nil,or_false] at hu
   rcases hu with rfl | rfl | rfl<;>rfl
  intro v11 w11 a0 q0 f0
  rw [← s0.out] at q0 f0
  have k0:Chg (fun c=>own c=K+11) w4 w11:=Z10 j0 q0 fun q hq=>.inl (p0.2 q hq)
  obtain⟨ad11,j1,rfl⟩:∃ ad c,v11=.slice ad (s.asked.length+1) c:=by
   rcases a0.2 with ⟨h,h0⟩ | ⟨g,cap,cur,h,_⟩
   ·omega
   ·exact⟨_,_,h⟩
  obtain⟨own12,n0,t12⟩:=c0.out.askApp x0 (f,nu,lq+1) a0 q0 f0
  have g0:w11.heap[a.b]?=some (.cells (ndC a s) 115 (0,0)):=Z0g c0.out.blk k0 n1
  have n2:w11.cell? ⟨a.b,32,none⟩=some (.slice ada s.asked.length d1):=((Z00 g0 32).trans (Z6f a s c0.out.ears)).trans (congrArg some s0.out)
  have o2:=Z03 g0 32
  have k2:=Z04 g0
  obtain⟨W12,o0⟩:∃ W12,W12=w11.setCell ⟨a.b,32,none⟩ (.slice ad11 (s.asked.length+1) j1):=⟨_,rfl⟩
  rw [← o0] at n0 t12
  have t13:=hd_ (t4.out.trans (t12.mono fun o e=>show JK K o by unfold JK;omega))
  have e2:R=({ s with asked:=s.asked++[(f,nu,lq+1)] },[]):=by rw [e.out,if_pos rfl,a1.out]
  replace e2:=hd_ e2;replace n0:=hd_ n0;replace g0:=hd_ g0;replace p0:=hd_ p0;clear t12 e0 b1 f0 a0 q0 t1 j0 t4;go_simp
  refine hK _ _ k0 ?_
  clear hK K1 k0;iterate 2 (refine Z0n rfl ?_;go_big_quiet_step (fail);refine wpQuiet_nil ?_)
  refine Z0h Z1j ?_;refine Z0j rfl (by kernel_rfl) ?_;intro K1 hK;go_simp
  refine hK _ _ (Z06 (Chg.refl _ _) trivial) ?_
  clear hK K1;refine Z0c ?_
  rw [← o0]
  replace o0:=hd_ o0;clear n2 o2 k2;go_wp2
  go_end0
  rw [e2.out,List.append_nil]
  exact⟨rfl,own12,_,out,n0.out,rfl,⟨rfl,rfl,rfl,rfl,rfl⟩,t13.out⟩
end
end
section
open Go.RowKit
section
variable {own:Nat→Nat} {K:Nat} {w:World} {a:NdAt} {s:Nd} {out:List MsS}
theorem Zgd (c:Nat) (h:NdO own K w a s out) (hok:Okg c s) (hc:c≤900000) (m:Ms) (sa:Option Addr) (sc:Nat) (hl:out.length≤1000000) (hp:pubE own w (.slice sa m.ents.length sc) m.ents) :
  Calls Tryz.prog 169 #[Z09 a.b,Z0w m (.slice sa m.ents.length sc)] w fun r w'=>r=.returned (.tuple #[])∧Stp own K w a w' (s.serve m).1 (out.map MsS.m++(s.serve m).2):=by
 by_cases h6:m.kind=6
 ·exact Zgb c h hok hc m h6 sa sc hl
 by_cases h7:m.kind=7
 ·exact Zd9 c h hok hc m h7 sa sc hl hp
 by_cases h8:m.kind=8
 ·exact Zgc c h hok hc m h8 sa sc hl
 by_cases h10:m.kind=10
 ·exact Zd8 c h hok hc m h10 sa sc hl
 exact Zd7 c h hok hc m h6 h7 h8 h10 sa sc hl
theorem Zb4 (c:Nat) (h:NdO own K w a s out) (hok:Okg c s) (hc:c≤900000) (m:Ms) (hk1:¬ m.kind=1) (hk2:¬ m.kind=2) (hk3:¬ m.kind=3) (hk4:¬ m.kind=4) (hk5:¬ m.kind=5) (hk9:¬ m.kind=9) (sa:Option Addr) (sc:Nat) (hl:out.length≤1000000) (hp:pubE own w (.slice sa m.ents.length sc) m.ents) :
  Calls Tryz.prog 118 #[Z09 a.b,Z0w m (.slice sa m.ents.length sc)] w fun r w'=>r=.returned (.tuple #[])∧Stp own K w a w' (s.hears m).1 (out.map MsS.m++(s.hears m).2):=by
 have l0:=h.r.k16
 obtain⟨k,f,t,b,vi,la,me,po,es,co,nu,cl,y⟩:=m
 dsimp only at *
 obtain⟨W0,f0⟩:∃ W,W=w.alloc (.cells #[.int .i64 k, .int .i64 f, .int .i64 t, .int .i64 b, .int .i64 vi, .int .i64 la, .int .i64 me, .int .i64 po, .slice sa es.length sc, .int .i64 co, .int .i64 nu, .int .i64 cl, .bool y] 37):=⟨_,rfl⟩
 have g0:Below w.heap.size w W0:=f0 ▸ (Below.refl _ _).alloc (Nat.le_refl _) _
 obtain⟨mb,i0⟩:∃ mb,mb=w.heap.size:=⟨_,rfl⟩
 have e0:W0.heap[mb]?=some (.cells #[.int .i64 k, .int .i64 f, .int .i64 t, .int .i64 b, .int .i64 vi, .int .i64 la, .int .i64 me, .int .i64 po, .slice sa es.length sc, .int .i64 co, .int .i64 nu, .int .i64 cl, .bool y] 37 (0,0)):=f0 ▸ i0 ▸ Z0a _ _
 have c0:=h.grow g0
 have hmo:own mb=0:=h.wf mb (by omega)
 have t0:=hd_ (Turn.grow (J:=JK K) (own:=own) g0 h.wf)
 obtain⟨R,hR⟩:∃ R,R=s.hears ⟨k,f,t,b,vi,la,me,po,es,co,nu,cl,y⟩:=⟨_,rfl⟩
 rw [← hR]
 have b1:(k==(1:Int))=false:=by simpa using hk1
 have b2:(k==(2:Int))=false:=by simpa using hk2
 have b3:(k==(3:Int))=false:=by simpa using hk3
 have b4:(k==(4:Int))=false:=by simpa using hk4
 have b5:(k==(5:Int))=false:=by simpa using hk5
 have b9:(k==(9:Int))=false:=by simpa using hk9
 obtain⟨g,hg⟩:∃ g,s.decides=g:=⟨_,rfl⟩
 have e:R=if g then s.serve ⟨k,f,t,b,vi,la,me,po,es,co,nu,cl,y⟩ else (s,[]):=by
  rw [hR,← hg]
  unfold Nd.hears
  simp only [b1,b2,b3,b4,b5,b9,Bool.false_eq_true,if_false]
 have hD:=Z6g c0 ⟨hok.m0,hok.m1⟩
 rw [hg] at hD
 have n0:=hd_ (hp.turn (Turn.grow (J:=JK K) (own:=own) g0 h.wf) (jk0 l0))
 replace hR:=hd_ hR;replace e:=hd_ e;replace hD:=hd_ hD;replace hg:=hd_ hg
 have m0:=Z00 e0 0
 simp only [List.getElem?_toArray,List.getElem?_cons_zero] at m0
 have p0:=Z04 e0
 replace c0:=hd_ c0;replace e0:=hd_ e0;clear g0
 go_enter Tryz.func118,Tryz.ntmps118
 go_upto_region 1 with (fail)
 rw [← f0,← i0]
 replace f0:=hd_ f0;replace i0:=hd_ i0;replace h:=hd_ h;go_wp2_with fail
 refine hD.out.mono ?_
 rintro r w1 ⟨rfl,h0⟩
 have d0:=c0.out.grow h0
 have a0:=Z02 e0.out h0
 have t1':=Turn.grow (J:=JK K) h0 c0.out.wf
 have j0:=n0.out.turn t1' (jk0 l0)
 have t1:=hd_ (t0.out.trans t1')
 clear m0 p0 hD h0 t1' c0 e0 n0
 cases g
 case false=>
  replace d0:=hd_ d0;go_wp2
  go_end0
  rw [e.out,if_neg (by decide),List.append_nil]
  exact⟨rfl,d0.out.stp (.refl a) t1.out⟩
 have e1:R=s.serve ⟨k,f,t,b,vi,la,me,po,es,co,nu,cl,y⟩:=e.out
 have b0:=hd_ (Zgd c d0 hok hc ⟨k,f,t,b,vi,la,me,po,es,co,nu,cl,y⟩ sa sc hl j0)
 rw [← e1] at b0
 replace e1:=hd_ e1
 have m0:=Z00 a0 0
 have m1:=Z00 a0 1
 have m2:=Z00 a0 2
 have m3:=Z00 a0 3
 have m4:=Z00 a0 4
 have m5:=Z00 a0 5
 have m6:=Z00 a0 6
 have m7:=Z00 a0 7
 have m8:=Z00 a0 8
 have m9:=Z00 a0 9
 have m10:=Z00 a0 10
 have m11:=Z00 a0 11
 have m12:=Z00 a0 12
 simp only [List.getElem?_toArray,List.getElem?_cons_zero,List.getElem?_cons_succ] at m0 m1 m2 m3 m4 m5 m6 m7 m8 m9 m10 m11 m12
 have p0:=Z04 a0
 replace d0:=hd_ d0;replace j0:=hd_ j0;go_wp2_with fail
 refine b0.out.mono ?_
 rintro r w2 ⟨rfl,o0⟩
 have k0:=hd_ (o0.after (.refl a) t1.out)
 clear o0 b0;go_wp2
 go_end0
 exact⟨rfl,k0.out⟩
end
end
section
open Go.RowKit
section
variable {own:Nat→Nat} {K:Nat} {w:World} {a:NdAt} {s:Nd} {out:List MsS}
theorem Zb5 (c:Nat) (h:NdO own K w a s out) (hok:Okg c s) (hc:c≤900000) (m:Ms) (hk:m.kind=9) (sa:Option Addr) (sc:Nat) (hl:out.length≤1000000) :
  Calls Tryz.prog 118 #[Z09 a.b,Z0w m (.slice sa m.ents.length sc)] w fun r w'=>r=.returned (.tuple #[])∧Stp own K w a w' (s.hears m).1 (out.map MsS.m++(s.hears m).2):=by
 have h16:=h.r.k16
 obtain⟨k,f,t,b,vi,la,me,po,es,co,nu,cl,y⟩:=m
 dsimp only at *
 subst hk
 obtain⟨W0,g0⟩:∃ W,W=w.alloc (.cells #[.int .i64 9, .int .i64 f, .int .i64 t, .int .i64 b, .int .i64 vi, .int .i64 la, .int .i64 me, .int .i64 po, .slice sa es.length sc, .int .i64 co, .int .i64 nu, .int .i64 cl, .bool y] 37):=⟨_,rfl⟩
 have k0:Below w.heap.size w W0:=g0 ▸ (Below.refl _ _).alloc (Nat.le_refl _) _
 obtain⟨mb,j0⟩:∃ mb,mb=w.heap.size:=⟨_,rfl⟩
 have d0:W0.heap[mb]?=some (.cells #[.int .i64 9, .int .i64 f, .int .i64 t, .int .i64 b, .int .i64 vi, .int .i64 la, .int .i64 me, .int .i64 po, .slice sa es.length sc, .int .i64 co, .int .i64 nu, .int .i64 cl, .bool y] 37 (0,0)):=g0 ▸ j0 ▸ Z0a _ _
 have b0:=h.grow k0
 have hmo:own mb=0:=h.wf mb (by omega)
 have t0:=hd_ (Turn.grow (J:=JK K) (own:=own) k0 h.wf)
 obtain⟨R,hR⟩:∃ R,R=s.hears ⟨9,f,t,b,vi,la,me,po,es,co,nu,cl,y⟩:=⟨_,rfl⟩
 rw [← hR]
 obtain⟨g,hg⟩:∃ g,(s.in_&&vi==s.last&&f==Z1y s.last s.n)=g:=⟨_,rfl⟩
 have e:R=(if g then { s with pf:=s.pf.get nu co } else s,[]):=by
  rw [hR,← hg]
  rfl
 have hd1:=hok.d1
 have hl0:=hok.l0
 have hl1:=hok.l1
 have hn3:=hok.n3
 have hn7:=hok.n7
 have m0:=Z00 d0 0
 have m1:=Z00 d0 1
 have m4:=Z00 d0 4
 simp only [List.getElem?_toArray,List.getElem?_cons_zero,List.getElem?_cons_succ] at m0 m1 m4
 have y0:=Z04 d0
 have c1:W0.cell? ⟨a.b,1,none⟩=some (.int .i64 s.n):=b0.c 1
 have o0:W0.cell? ⟨a.b,11,none⟩=some (.int .i64 s.last):=b0.c 11
 have x0:=b0.lt
 have HI:Hid (∀ y,Calls Tryz.prog 77 #[Z09 a.b] (Z1c W0 y) fun r w'=>r=.returned (.bool s.in_)∧∃ z,w'=Z1c W0 z):=hd_ fun y=>
  Z5l (Z41 own K a s out _ (b0.grow (Z0s W0 y)) ⟨hok.m0,hok.m1⟩)
 have HD:Hid (∀ y,Calls Tryz.prog 89 #[.int .i64 s.last, .int .i64 s.n] (Z1c W0 y) fun r w'=>r=.returned (.int .i64 (Z1y s.last s.n))∧∃ z,w'=Z1c W0 z):=hd_ fun y=>
  Z0o (Z0p s.last s.n _ (by omega) (by omega))
 replace hR:=hd_ hR;replace hg:=hd_ hg;replace e:=hd_ e;replace b0:=hd_ b0;replace d0:=hd_ d0;clear k0
 go_enter Tryz.func118,Tryz.ntmps118
 go_upto_region 1 with (fail)
 rw [← g0,← j0]
 replace g0:=hd_ g0;replace j0:=hd_ j0;replace h:=hd_ h;go_upto_region 17 with (fail)
 have k1:=Z07 c1
 have r0:=Z07 o0
 have v0:=Z07 m1
 have w0:=Z07 m4
 go_cut [123] (fun z wx=>z=.bool g∧Below W0.heap.size W0 wx)
 case first=>
  obtain⟨i,hi⟩:∃ i,s.in_=i:=⟨_,rfl⟩
  rw [hi] at HI
  replace hi:=hd_ hi
  cases i
  case false=>
   refine Z08 (by kernel_rfl) (by kernel_rfl) ?_
   repeat (go_big_quiet_step (first | (go_at_call 77;exact HI.out _) | (go_at_call 89;exact HD.out _)))
   refine wpQuiet_nil ?_
   intro w3 e0
   have a0:=hd_ (Z0e e0)
   clear e0;go_wp2_with fail
   go_meet
   exact⟨by rw [← hg.out,hi.out];simp,a0.out⟩
  by_cases g1:vi=s.last
  ·have g1':(vi==s.last)=true:=by simpa using g1
   replace g1:=hd_ g1
   refine Z08 (by kernel_rfl) (by kernel_rfl) ?_
   repeat (go_big_quiet_step (first | (go_at_call 77;exact HI.out _) | (go_at_call 89;exact HD.out _)))
   refine wpQuiet_nil ?_
   intro w3 e0
   have a0:=hd_ (Z0e e0)
   clear e0;go_wp2_with fail
   go_meet
   exact⟨by rw [← hg.out,hi.out,g1'];simp,a0.out⟩
  ·have g1':(vi==s.last)=false:=by simpa using g1
   replace g1:=hd_ g1
   refine Z08 (by kernel_rfl) (by kernel_rfl) ?_
   repeat (go_big_quiet_step (first | (go_at_call 77;exact HI.out _) | (go_at_call 89;exact HD.out _)))
   refine wpQuiet_nil ?_
   intro w3 e0
   have a0:=hd_ (Z0e e0)
   clear e0;go_wp2_with fail
   go_meet
   exact⟨by rw [← hg.out,hi.out,g1'];simp,a0.out⟩
 case rest=>
  obtain⟨rfl,a0⟩:=hcut
  rename World=>w3
  have c0:=b0.out.grow a0
  have t3:=hd_ (t0.out.trans (Turn.grow (J:=JK K) a0 b0.out.wf))
  have q0:=hd_ (Z02 d0.out a0)
  clear a0 k1 r0 v0 w0 m0 m1 m4 y0 c1 o0 x0 HI HD b0 d0 t0
  cases g
  case false=>
   replace c0:=hd_ c0;go_wp2
   go_end0
   rw [e.out,List.append_nil]
   exact⟨rfl,c0.out.stp (.refl a) t3.out⟩
  replace c0:=hd_ c0;go_upto_region 18 with (fail)
  refine Z05 (fun _=>False) (.q 0 (.q 1 (.q 2 (.q 3 (.q 4 (.q 5 (.q 6 (.q 7 (.cut (.l 8 .fin)))))))))) (by kernel_rfl) (by kernel_rfl) ?_
  intro w6 p0 h0
  have f0:=c0.out.grow h0
  have i0:=Z02 q0.out h0
  have tr6:=t3.out.trans (Turn.grow h0 c0.out.wf)
  have hG:=hd_ (Zjb f0 nu co)
  have s0:=Z01 (F:=fun _=>False) (b:=w6) (fun h=>h) (show w6.cell? ⟨a.b,16,none⟩=some (Z09 a.f) from f0.c 16)
  have p9:=Z01 (F:=fun _=>False) (b:=w6) (fun h=>h) (show w6.cell? ⟨mb,9,none⟩=some (.int .i64 co) from Z00 i0 9)
  have p10:=Z01 (F:=fun _=>False) (b:=w6) (fun h=>h) (show w6.cell? ⟨mb,10,none⟩=some (.int .i64 nu) from Z00 i0 10)
  replace f0:=hd_ f0;replace i0:=hd_ i0;replace h0:=hd_ h0;replace p0:=hd_ p0;replace tr6:=hd_ tr6;clear c0 q0 t3;iterate 8 (refine Z0n rfl ?_;go_big_quiet_step (fail);refine wpQuiet_nil ?_)
  clear s0 p9 p10;refine Z0h Z1j ?_;refine Z0j rfl (by kernel_rfl) ?_;intro K1 hK;go_simp
  refine hG.out.mono ?_
  rintro r w7 ⟨⟨bb,rfl⟩,n0,t7⟩
  refine hK _ _ (Z0l t7) ?_
  clear hK K1 hG;refine Z0c ?_
  have t8:=hd_ (tr6.out.trans (t7.mono fun o e=>show JK K o by unfold JK;omega))
  replace n0:=hd_ n0;clear t7 f0 i0 tr6;go_wp2
  go_end0
  rw [e.out,List.append_nil]
  exact⟨rfl,own,a,out,n0.out,rfl, .refl a,t8.out⟩
end
end
section
open Go.RowKit
theorem Zeo {l:List Ent} {K:Nat} {es:List Ent}:∀ (i:Nat) {m:List Ent},Z2g l K es i=some m→l.length≤m.length
 | 0,m,h=>by injection h with h;rw [← h];exact Nat.le_refl _
 | i+1,m,h=>by
   rw [Z2g] at h
   cases hp:Z2g l K es i with
   | none=>rw [hp] at h;cases h
   | some x=>
     rw [hp] at h
     have:=Zeo i hp
     simp only at h
     split at h
     ·split at h
      ·injection h with h;rw [← h];exact this
      ·cases h
     ·split at h
      ·injection h with h;rw [← h];simp;omega
      ·cases h
theorem putE_ge {l:List Ent} {k:Int} {es m:List Ent} (h:Z6p l k es=some m):l.length≤m.length:=by
 unfold Z6p at h;split at h
 ·cases h
 ·exact Zeo _ h
theorem Okg.take {c:Nat} {s:Nd} (h:Okg c s) (m:Ms) (hm:MayM m):Okg c (s.take m):=by
 have hL:=Z2d m.ents
 have ho:=h.o0
 have hc:=hm.o1
 exact { h with
  d0:=by show 0≤(if s.dv<m.view∧m.view≤1099511627776 then m.view else s.dv);have:=h.d0;have:=hm.v1;split<;>omega
  d1:=by show (if s.dv<m.view∧m.view≤1099511627776 then m.view else s.dv)≤1099511627776;have:=h.d1;split<;>omega
  l0:=hm.v1
  l1:=by show m.view≤(if s.dv<m.view∧m.view≤1099511627776 then m.view else s.dv);have:=hm.v2;split<;>omega
  m0:=hm.m1
  m1:=by show m.mem<128;have:=hm.m2;omega
  lg:=hL
  o0:=by show 0≤min (max s.com m.com) ((Z2y m.ents).length:Int);omega
  o1:=by show min (max s.com m.com) ((Z2y m.ents).length:Int)≤((Z2y m.ents).length:Int);omega
  h0:=h.c0
  h1:=Int.le_refl _
  lm:=Zek m.ents }
theorem Okg.state {c:Nat} {s:Nd} (h:Okg c s) (m:Ms) (hm:MayM m):Okg c (s.state m).1:=by
 unfold Nd.state
 split
 ·exact h
 ·exact { h.take m hm with }
theorem Okg.proposed {c:Nat} {s:Nd} (h:Okg c s) (m:Ms) (hm:MayM m):Okg c (s.proposed m).1:=by
 unfold Nd.proposed
 split
 ·exact h
 ·split
  ·next hv=>
   split
   ·exact h
   ·have h0:=h.d0
    exact { h with
     d0:=hm.v1
     d1:=hm.v2
     l1:=by have:=h.l1;show s.last≤m.view;omega
     h0:=h.c0
     h1:=Int.le_refl _
     qa:=Nat.zero_le _
     vt:=fun u l e=>by cases e }
  ·split<;>exact h
theorem Okg.installed {c:Nat} {s:Nd} (h:Okg c s) (m:Ms) (hm:MayM m):Okg c (s.installed m).1:=by
 unfold Nd.installed
 split
 ·exact h
 ·split
  ·exact { h.take m hm with
    qa:=Nat.zero_le _
    vt:=fun u l e=>by cases e }
  ·split
   ·exact { h with h0:=h.c0,h1:=Int.le_refl _ }
   ·exact h
theorem Okg.append {c:Nat} {s:Nd} (h:Okg c s) (m:Ms) (hm:MayM m):Okg c (s.append m).1:=by
 unfold Nd.append
 split
 ·exact h
 ·cases hp:Z6p s.L m.pos m.ents with
  | none=>exact { h with h0:=h.c0,h1:=Int.le_refl _ }
  | some L=>
    have hL:=putE_len h.lg hp
    have hg:=putE_ge hp
    have ho:=h.o0
    have h1:=h.o1
    have hc:=hm.o1
    exact { h with
     h0:=h.c0
     h1:=Int.le_refl _
     lg:=hL
     lm:=putE_may h.lm hp
     o0:=by show 0≤max s.com (min m.com (L.length:Int));omega
     o1:=by show max s.com (min m.com (L.length:Int))≤(L.length:Int);omega }
theorem Pf.get_same (p:Pf) (num com:Int):(p.get num com).num=p.num∧(p.get num com).asked=p.asked:=by
 unfold Pf.get
 split
 ·exact⟨rfl,rfl⟩
 ·split<;>exact⟨rfl,rfl⟩
theorem Okg.pfget {c:Nat} {s:Nd} (h:Okg c s) (num com:Int):Okg c { s with pf:=s.pf.get num com }:=by
 obtain⟨e1,e2⟩:=Pf.get_same s.pf num com
 exact { h with q0:=by show 0≤(s.pf.get num com).num;rw [e1];exact h.q0,q1:=by show (s.pf.get num com).num≤_;rw [e1];exact h.q1,qa:=by show (s.pf.get num com).asked.length≤64;rw [e2];exact h.qa }
theorem Okg.hasStep {c:Nat} {r:Nd × List (Int × Int × Int) × List Ms} (h:Okg c r.1) (P:Int) (q:Int × Int × Int):Okg c (hasStep P r q).1:=by
 by_cases hc:P<q.2.2
 ·rw [Z1w _ _ _ hc];exact h
 ·by_cases hi:q.1=r.1.id
  ·rw [Z2a _ _ _ hc hi];exact h.pfget _ _
  ·rw [Z2b _ _ _ hc hi];exact h
theorem Zep (P:Int) (s:Nd):∀ k,k≤s.asked.length→∀ q ∈ (hasF P s k).2.1,q ∈ s.asked
 | 0,_,q,hq=>by cases hq
 | k+1,h,q,hq=>by
   have ih:=Zep P s k (by omega) q
   rw [Z3e P s (by omega)] at hq
   by_cases hc:P<(s.asked[k]'(by omega)).2.2
   ·rw [Z1w _ _ _ hc] at hq
    rcases List.mem_append.1 hq with h1 | h1
    ·exact ih h1
    ·rw [List.mem_singleton.1 h1];exact List.getElem_mem _
   ·by_cases hi:(s.asked[k]'(by omega)).1=(hasF P s k).1.id
    ·rw [Z2a _ _ _ hc hi] at hq;exact ih hq
    ·rw [Z2b _ _ _ hc hi] at hq;exact ih hq
theorem Okg.hasF {c:Nat} {s:Nd} (h:Okg c s) (P:Int):∀ k,k≤s.asked.length→Okg c (hasF P s k).1
 | 0,_=>h
 | k+1,hk=>by
   rw [Z3e P s (by omega)]
   exact Okg.hasStep (Okg.hasF h P k (by omega)) _ _
theorem Okg.has2 {c:Nat} {s:Nd} (h:Okg c s) (P:Int):Okg c (s.has2 P).1:=by
 have h1:=h.hasF P s.asked.length (Nat.le_refl _)
 obtain⟨e,hl,_⟩:=Z3o P s s.asked.length (Nat.le_refl _)
 have hs:=Zep P s s.asked.length (Nat.le_refl _)
 exact { h1 with asl:=by show (Go.Proofs.YtbonjbokofkafaaGreat.hasF P s s.asked.length).2.1.length≤64+c;have:=h.asl;omega,asq:=fun q hq=>h.asq q (hs q hq) }
theorem Okg.has1 {c:Nat} {s:Nd} (h:Okg c s) (m:Ms):Okg c (s.has1 m):=by
 have ho:=h.o0
 have h1:=h.o1
 have h2:=h.a0
 have h3:=h.a1
 exact { h with
  o0:=by show 0≤max s.com _;omega
  o1:=by show max s.com (min _ (s.L.length:Int))≤(s.L.length:Int);omega
  a0:=by show (0:Int)≤((Z37 s.acked.toNat m.frm:Nat):Int);omega
  a1:=by show ((Z37 s.acked.toNat m.frm:Nat):Int)<128;have:=Zds m.frm (show s.acked.toNat<128 by omega);omega
  qd:=Qin.ack h.qd _ _ _
  er:=Zjd h.er ⟨h.c0,Int.le_refl _⟩ }
theorem Okg.hasM {c:Nat} {s:Nd} (h:Okg c s) (m:Ms):Okg c (s.hasM m).1:=by
 rw [Z3n]
 unfold Nd.hasG
 split
 ·split
  ·exact h.has1 m
  ·exact (h.has1 m).has2 _
 ·exact h
theorem Okg.serve {c:Nat} {s:Nd} (h:Okg c s) (m:Ms) (hm:MayM m):Okg c (s.serve m).1:=by
 unfold Nd.serve
 split
 ·split
  ·exact h.hasM m
  ·exact h
 ·split
  ·exact Okg.srvFs m.frm m.ents h
  ·split
   ·exact h
   ·split
    ·show Okg c (if _ then _ else _)
     split
     ·next hc=>
      simp only [Bool.and_eq_true,decide_eq_true_eq] at hc
      have hl:=hc.2
      refine { h with asl:=?_,asq:=?_ }
      ·show (s.asked++[_]).length≤64+c
       rw [List.length_append];simp;omega
      ·intro q hq
       rcases List.mem_append.1 hq with h1 | h1
       ·exact h.asq q h1
       ·rw [List.mem_singleton.1 h1];exact⟨hm.f1,hm.f2,hm.n1,hm.n2⟩
     ·exact h
    ·exact h
theorem Okg.deny {c:Nat} {s:Nd} (h:Okg c s) (m:Ms) (hm:MayM m):Okg c (if s.v.isSome&&decide (s.dv<m.view) then { s with denied:=max s.denied m.view,again:=true } else s):=by
 split
 ·exact { h with e0:=by show 0≤max s.denied m.view;have:=h.e0;omega,e1:=by show max s.denied m.view≤1099511627776;have:=h.e1;have:=hm.v2;omega }
 ·exact h
theorem Okg.hears_vote {c:Nat} {s:Nd} (h:Okg c s) (m:Ms) (hk:m.kind=3):Okg c (s.hears m).1:=by
 obtain⟨k,f,t,b,vi,la,me,po,es,co,nu,cl,y⟩:=m
 dsimp only at hk
 subst hk
 show Okg c (match s.v with
  | some (view,l)=>if vi==view&&vi==s.dv then { s with v:=some (view,Zbx view s.n l ⟨f,la,es,co⟩) } else s
  | none=>s)
 cases hsv:s.v with
 | none=>exact h
 | some ul=>
   obtain⟨u,l⟩:=ul
   show Okg c (if vi==u&&vi==s.dv then { s with v:=some (u,Zbx u s.n l ⟨f,la,es,co⟩) } else s)
   split
   ·refine { h with vt:=?_ }
    intro u' l' e
    have e:some (u,Zbx u s.n l ⟨f,la,es,co⟩)=some (u',l'):=e
    injection e with e
    injection e with e1 e2
    subst e1;subst e2
    exact Z9d (h.vt u l hsv) h.n7 _
   ·exact h
theorem Okg.hears {c:Nat} {s:Nd} (h:Okg c s) (m:Ms) (hm:MayM m):Okg c (s.hears m).1:=by
 by_cases h3:m.kind=3
 ·exact h.hears_vote m h3
 unfold Nd.hears
 have b3:(m.kind==(3:Int))=false:=by simpa using h3
 rw [b3]
 simp only [Bool.false_eq_true,if_false]
 split
 ·exact h.proposed m hm
 ·split
  ·exact h.deny m hm
  ·split
   ·exact h.installed m hm
   ·split
    ·exact h.append m hm
    ·split
     ·show Okg c (if _ then _ else _)
      split
      ·exact h.pfget _ _
      ·exact h
     ·split
      ·exact h.serve m hm
      ·exact h
theorem Okg.heard_ {c:Nat} {s:Nd} (h:Okg c s) (m:Ms):Okg c (s.heard_ m):={ h with }
theorem Okg.hear0 {c:Nat} {s:Nd} (h:Okg c s) (m:Ms) (hm:MayM m):Okg c (s.hear0 m).1:=by
 unfold Nd.hear0
 split
 ·exact h
 ·split
  ·exact h.state m hm
  ·exact h.hears m hm
theorem Okg.hear {c:Nat} {s:Nd} (h:Okg c s) (m:Ms) (hm:MayM m):Okg (c+1) (s.hear m).1:=by
 unfold Nd.hear
 split
 ·exact h.up (Nat.le_succ c)
 ·exact ((h.heard_ m).hear0 m hm).settle
end
section
open Go.RowKit
section
variable {own:Nat→Nat} {K:Nat} {w:World} {a:NdAt} {s:Nd} {out:List MsS}
theorem Zge (c:Nat) (h:NdO own K w a s out) (hok:Okg c s) (hc:c≤900000) (m:Ms) (hm:MayM m) (sa:Option Addr) (sc:Nat) (hl:out.length≤1000000) (hp:pubE own w (.slice sa m.ents.length sc) m.ents) :
  Calls Tryz.prog 118 #[Z09 a.b,Z0w m (.slice sa m.ents.length sc)] w fun r w'=>r=.returned (.tuple #[])∧Stp own K w a w' (s.hears m).1 (out.map MsS.m++(s.hears m).2):=by
 have he:=hm.e1
 have ho:=hm.o2
 by_cases h1:m.kind=1
 ·exact Zcr c h hok.toOk m sa sc h1 hl hm.v1 hm.v2
 by_cases h2:m.kind=2
 ·exact Zcp c h hok.toOk m sa sc h2
 by_cases h3:m.kind=3
 ·exact Zcq c h hok.toOk m sa sc h3 hp
 by_cases h4:m.kind=4
 ·exact Zcu c h hok.toOk m sa sc h4 hl hp (by omega) ⟨hm.m1,by have:=hm.m2;omega⟩ (by have:=hm.v1;have:=hm.v2;unfold I64;omega) hm.o1 (by omega)
 by_cases h5:m.kind=5
 ·exact Zg1 c h hok.toOk m sa sc h5 hl hp (by omega) hm.o1 (by omega)
 by_cases h9:m.kind=9
 ·exact Zb5 c h hok hc m h9 sa sc hl
 exact Zb4 c h hok hc m h1 h2 h3 h4 h5 h9 sa sc hl hp
theorem Zb6 (c:Nat) (h:NdO own K w a s []) (hm0:M0 own w) (hok:Okg c s) (hc:c≤800000) (v:Value) (m:Ms) (hb:rdB w v (Z4w m)) (hm:MayM m) :
  Calls Tryz.prog 68 #[Z09 a.b,v] w fun r w'=>∃ v',r=.returned v'∧((s.hear m=(s,[])∧v'=.slice none 0 0∧NdO own K w' a s []∧Turn (JK K) own own w w')∨Zfx own K w a w' (s.hear m).1 (s.hear m).2 v'):=by
 have a0:=h.r.k16
 have he:=hm.e1
 have ho:=hm.o2
 refine xHear_of Zen h v m hb hm (fun _ _ own1 w1 t=>⟨hm0.turn a0 t,((hok.heard_ m).hear0 m hm).tell (by omega)⟩) (fun _ hk own1 w1 sa sc hN hp=>?_) (fun _ hk own1 w1 sa sc hN hp=>?_)
 ·have:=Zg2 c hN (hok.heard_ m).toOk hk m sa sc (by simp) hp (by omega) ⟨hm.m1,by have:=hm.m2;omega⟩ (by have:=hm.v1;have:=hm.v2;unfold I64;omega) hm.o1 (by omega)
  simpa using this
 ·have:=Zge c hN (hok.heard_ m) (by omega) m hm sa sc (by simp) hp
  simpa using this
end
end
section
open Go.RowKit
theorem Zgf (b:Nat) (p:Pf) (F:Nat→Prop) (clock com:Int) (w:World) (h:pfO w F b p) (hb0:0≤p.bc) (hb1:p.bc≤1099511627776) (hc0:0≤clock) (hc1:clock≤1099511627776) :
  Calls Tryz.prog 146 #[.pointer (some ⟨b,0,none⟩), .int .i64 clock, .int .i64 com] w fun r w'=>r=.returned (.int .i64 (p.left clock com))∧w=w':=by
 obtain⟨hFb,v,hb,hv,hr⟩:=h
 have c2:w.cell? ⟨b,2,none⟩=some (.bool p.has):=Z00 hb 2
 have c4:w.cell? ⟨b,4,none⟩=some (.int .i64 p.bc):=Z00 hb 4
 have c5:w.cell? ⟨b,5,none⟩=some (.int .i64 p.com):=Z00 hb 5
 have hlt:=Z04 hb
 obtain⟨R,hR⟩:∃ R,R=p.left clock com:=⟨_,rfl⟩
 rw [← hR]
 unfold Pf.left at hR
 obtain⟨g,hg⟩:∃ g,p.has=g:=⟨_,rfl⟩
 rw [hg] at c2 hR
 replace hR:=hd_ hR;replace hg:=hd_ hg;replace hr:=hd_ hr;replace hb:=hd_ hb
 cases g
 ·have e:=hd_ (show R=0 from by rw [hR.out];rfl)
  go_enter Tryz.func146,Tryz.ntmps146
  go_wp2
  refine bodyPost_ret (v:=.int .i64 0) (by simp [results,Tryz.results146,go_sem]) rfl ?_
  exact⟨by rw [e.out],rfl⟩
 ·by_cases h1:com<p.com
  ·have e:=hd_ (show R=0 from by rw [hR.out];simp [h1])
   go_enter Tryz.func146,Tryz.ntmps146
   go_wp2
   refine bodyPost_ret (v:=.int .i64 0) (by simp [results,Tryz.results146,go_sem]) rfl ?_
   exact⟨by rw [e.out],rfl⟩
  ·by_cases h2:clock<p.bc
   ·have e:=hd_ (show R=0 from by rw [hR.out];simp [h1,h2])
    go_enter Tryz.func146,Tryz.ntmps146
    go_wp2
    refine bodyPost_ret (v:=.int .i64 0) (by simp [results,Tryz.results146,go_sem]) rfl ?_
    exact⟨by rw [e.out],rfl⟩
   ·have e:=hd_ (show R=if 12≤clock-p.bc then 0 else 12-(clock-p.bc) from by rw [hR.out];simp [h1,h2])
    by_cases h3:12≤clock-p.bc
    ·have e1:=hd_ (show R=0 from by rw [e.out,if_pos h3])
     go_enter Tryz.func146,Tryz.ntmps146
     go_wp2
     refine bodyPost_ret (v:=.int .i64 0) (by simp [results,Tryz.results146,go_sem]) rfl ?_
     exact⟨by rw [e1.out],rfl⟩
    ·have e1:=hd_ (show R=12-(clock-p.bc) from by rw [e.out,if_neg h3])
     go_enter Tryz.func146,Tryz.ntmps146
     go_wp2
     refine bodyPost_ret (v:=.int .i64 (12-(clock-p.bc))) (by simp [results,Tryz.results146,go_sem]) rfl ?_
     exact⟨by rw [e1.out],rfl⟩
theorem Zgg (b:Nat) (p:Pf) (F:Nat→Prop) (clock com:Int) (w:World) (h:pfO w F b p) (hb0:0≤p.bc) (hb1:p.bc≤1099511627776) (hc0:0≤clock) (hc1:clock≤1099511627776) :
  Calls Tryz.prog 83 #[.pointer (some ⟨b,0,none⟩), .int .i64 clock, .int .i64 com] w fun r w'=>r=.returned (.bool (p.good clock com))∧w=w':=by
 have hL:=hd_ (Zgf b p F clock com w h hb0 hb1 hc0 hc1)
 obtain⟨R,hR⟩:∃ R,p.left clock com=R:=⟨_,rfl⟩
 have e:p.good clock com=decide (0<R):=by unfold Pf.good;rw [hR]
 rw [hR] at hL
 rw [e]
 replace h:=hd_ h;replace hR:=hd_ hR;replace e:=hd_ e
 go_enter Tryz.func83,Tryz.ntmps83
 go_wp2_with fail
 refine hL.out.mono ?_
 rintro r wx ⟨rfl,rfl⟩;go_wp2
 refine bodyPost_ret (v:=.bool (decide (0<R))) (by simp [results,Tryz.results83,go_sem]) rfl ?_
 exact⟨rfl,rfl⟩
end
section
open Go.RowKit
def Nd.good (s:Nd):Bool:=s.in_&&s.pf.good s.clock s.com
section
variable {own:Nat→Nat} {K:Nat} {w:World} {a:NdAt} {s:Nd} {out:List MsS}
theorem Zb7 (h:NdO own K w a s out) (hm:0≤s.mem∧s.mem<128) (hb0:0≤s.pf.bc) (hb1:s.pf.bc≤1099511627776) (hc0:0≤s.clock) (hc1:s.clock≤1099511627776) :
  Calls Tryz.prog 29 #[Z09 a.b] w fun r w'=>r=.returned (.bool s.good)∧Below w.heap.size w w':=by
 have d0:w.cell? ⟨a.b,16,none⟩=some (Z09 a.f):=h.c 16
 have c4:w.cell? ⟨a.b,4,none⟩=some (.int .i64 s.clock):=h.c 4
 have c0:w.cell? ⟨a.b,10,none⟩=some (.int .i64 s.com):=h.c 10
 have la:=h.lt
 obtain⟨i,hi⟩:∃ i,s.in_=i:=⟨_,rfl⟩
 obtain⟨g,hg⟩:∃ g,s.pf.good s.clock s.com=g:=⟨_,rfl⟩
 have e:s.good=(i&&g):=by unfold Nd.good;rw [hi,hg]
 rw [e]
 have HI:Hid (∀ y,Calls Tryz.prog 77 #[Z09 a.b] (Z1c w y) fun r w'=>r=.returned (.bool i)∧∃ z,w'=Z1c w z):=hd_ fun y=>by
  rw [← hi];exact Z5l (Z41 own K a s out _ (h.grow (Z0s w y)) hm)
 have HG:Hid (∀ y,Calls Tryz.prog 83 #[Z09 a.f, .int .i64 s.clock, .int .i64 s.com] (Z1c w y) fun r w'=>r=.returned (.bool g)∧∃ z,w'=Z1c w z):=hd_ fun y=>by
  rw [← hg];exact Z0o (Zgg a.f s.pf _ s.clock s.com _ (h.grow (Z0s w y)).r.pf hb0 hb1 hc0 hc1)
 replace h:=hd_ h;replace hi:=hd_ hi;replace hg:=hd_ hg;replace e:=hd_ e
 have k16:=Z07 d0
 have k4:=Z07 c4
 have k10:=Z07 c0
 go_enter Tryz.func29,Tryz.ntmps29
 go_upto_region 1 with (fail)
 cases i
 ·refine Z08 (by kernel_rfl) (by kernel_rfl) ?_
  repeat (go_big_quiet_step (first | (go_at_call 77;exact HI.out _) | (go_at_call 83;exact HG.out _)))
  refine wpQuiet_nil ?_
  intro w3 a0
  have b0:=hd_ (Z0e a0)
  clear a0;go_wp2
  refine bodyPost_ret (v:=.bool false) (by simp [results,Tryz.results29,go_sem]) rfl ?_
  exact⟨rfl,b0.out⟩
 ·refine Z08 (by kernel_rfl) (by kernel_rfl) ?_
  repeat (go_big_quiet_step (first | (go_at_call 77;exact HI.out _) | (go_at_call 83;exact HG.out _)))
  refine wpQuiet_nil ?_
  intro w3 a0
  have b0:=hd_ (Z0e a0)
  clear a0;go_wp2
  refine bodyPost_ret (v:=.bool g) (by simp [results,Tryz.results29,go_sem]) rfl ?_
  exact⟨rfl,b0.out⟩
end
end
section
open Go.RowKit
def Nd.castE (s:Nd) (o l:Int) (d:ByteArray):Ent:=⟨s.id,s.boot,s.pseq+1,o,l,0,d⟩
def Nd.cast (s:Nd) (o l:Int) (d:ByteArray):Nd × Int:=
 if !s.in_ then (s,6)
 else if !Z2l (s.castE o l d) then (s,1)
 else if 4≤s.pend.length then (s,9)
 else ({ s with pseq:=s.pseq+1,pend:=s.pend++[s.castE o l d] },0)
theorem Okg.cast {c:Nat} {s:Nd} (h:Okg c s) (o l:Int) (d:ByteArray):Okg c (s.cast o l d).1:=by
 unfold Nd.cast
 split
 ·exact h
 ·split
  ·exact h
  ·next hm=>
   split
   ·exact h
   ·next hl=>
    exact { h with
     ps0:=by show 0≤s.pseq+1;have:=h.ps0;omega
     pd:=by show (s.pend++[s.castE o l d]).length≤4;rw [List.length_append];simp;omega
     pm:=fun e he=>by
      rcases List.mem_append.1 he with h1 | h1
      ·exact h.pm e h1
      ·rw [List.mem_singleton.1 h1];simpa using hm }
def Nov (s:Nd):Prop:=s.knows=false→s.v=none
theorem Nov.cast {s:Nd} (h:Nov s) (o l:Int) (d:ByteArray):Nov (s.cast o l d).1:=by
 unfold Nd.cast
 split
 ·exact h
 ·split
  ·exact h
  ·split
   ·exact h
   ·exact h
theorem Zb8 (s:Nd) (e:Ent):(s.add e).knows=s.knows:=by
 unfold Nd.add;dsimp only;split<;>rfl
theorem Z63:∀ (l:List Ent) (s:Nd),(l.foldl Nd.add s).knows=s.knows
 | [],s=>rfl
 | e :: l,s=>(Z63 l (s.add e)).trans (Zb8 s e)
theorem Z3p (s:Nd):s.propose.1.knows=s.knows:=by
 unfold Nd.propose;dsimp only;split<;>rfl
theorem Zb9 (s:Nd) (u:Int) (l:List Vt):(s.gather u l).1.knows=s.knows:=by
 unfold Nd.gather
 split
 ·rfl
 ·split
  ·exact Z3p s
  ·rfl
theorem Zba (s:Nd):s.decide_.1.knows=s.knows:=by
 unfold Nd.decide_
 dsimp only
 split
 ·exact (Z3p _).trans (Z63 _ _)
 ·exact Z63 _ _
theorem Zda (s:Nd):s.tick0.1.knows=s.knows:=by
 have hr:(if s.decides then s.decide_ else if s.late then s.propose else if s.in_ then s.ask else (s,[])).1.knows=s.knows:=by
  split
  ·exact Zba s
  ·split
   ·exact Z3p s
   ·split<;>rfl
 unfold Nd.tick0
 dsimp only
 split
 ·rfl
 ·cases s.v with
  | none=>exact hr
  | some ul=>
    obtain⟨u,l⟩:=ul
    show (if u==s.dv then s.gather u l else (if s.decides then s.decide_ else if s.late then s.propose else if s.in_ then s.ask else (s,[]))).1.knows=s.knows
    split
    ·exact Zb9 s u l
    ·exact hr
theorem Nov.tick {s:Nd} (h:Nov s):Nov s.tick.1:=by
 intro hk
 have e:s.tick.1.knows=s.knows:=Zda ({ s with clock:=s.clock+1 })
 rw [e] at hk
 have e2:s.tick.1.v=s.v:=by
  show (({ s with clock:=s.clock+1 }:Nd).tick0.1).v=s.v
  rw [Nd.tick0_not (show ({ s with clock:=s.clock+1 }:Nd).knows=false from hk)]
 rw [e2];exact h hk
theorem Zbb (f:Int):∀ (l:List Ent) (s:Nd),(l.foldl (srvF f) s).knows=s.knows
 | [],s=>rfl
 | e :: l,s=>(Zbb f l (srvF f s e)).trans (by unfold srvF;split;exact Zb8 s e;rfl)
theorem Zjf (s:Nd) (m:Ms):(s.hasM m).1.knows=s.knows:=by
 rw [Z3n]
 unfold Nd.hasG
 split
 ·split
  ·rfl
  ·show (hasF _ (s.has1 m) (s.has1 m).asked.length).1.knows=s.knows
   rw [(Z3o _ (s.has1 m) _ (Nat.le_refl _)).1]
   rfl
 ·rfl
theorem Zdb (s:Nd) (m:Ms):(s.serve m).1.knows=s.knows:=by
 unfold Nd.serve
 split
 ·split
  ·exact Zjf s m
  ·rfl
 ·split
  ·exact Zbb m.frm m.ents s
  ·split
   ·rfl
   ·split
    ·show (if _ then _ else _:Nd).knows=s.knows
     split<;>rfl
    ·rfl
theorem Zdc (s:Nd) (m:Ms):(s.hears m).1.knows=s.knows:=by
 unfold Nd.hears
 split
 ·unfold Nd.proposed;dsimp only;repeat' split
  all_goals rfl
 ·split
  ·show (if _ then _ else _:Nd).knows=s.knows
   split<;>rfl
  ·split
   ·cases s.v with
    | none=>rfl
    | some ul=>
      obtain⟨u,l⟩:=ul
      show (if _ then _ else _:Nd).knows=s.knows
      split<;>rfl
   ·split
    ·unfold Nd.installed;dsimp only;repeat' split
     all_goals rfl
    ·split
     ·unfold Nd.append;dsimp only;split
      ·rfl
      ·cases Z6p s.L m.pos m.ents<;>rfl
     ·split
      ·show (if _ then _ else _:Nd).knows=s.knows
       split<;>rfl
      ·split
       ·exact Zdb s m
       ·rfl
theorem Nov.hear {s:Nd} (h:Nov s) (m:Ms):Nov (s.hear m).1:=by
 unfold Nd.hear
 split
 ·exact h
 ·show Nov ((s.heard_ m).hear0 m).1.settle
  intro hk
  have hk:((s.heard_ m).hear0 m).1.knows=false:=hk
  show ((s.heard_ m).hear0 m).1.v=none
  unfold Nd.hear0 at hk ⊢
  split at hk
  ·next hc=>rw [if_pos hc];exact h hk
  ·next hc=>
   rw [if_neg hc]
   split at hk
   ·next hn=>
    rw [if_pos hn]
    unfold Nd.state at hk ⊢
    split at hk
    ·next hw=>rw [if_pos hw];exact h hk
    ·cases hk
   ·next hn=>
    rw [Zdc] at hk
    rw [hk] at hn
    exact absurd rfl hn
end
section
open Go.RowKit
structure PfT (s:Nd):Prop where
 b0:0≤s.pf.bc
 b1:s.pf.bc≤s.clock
 ak:∀ q ∈ s.pf.asked,0≤q.2∧q.2≤s.clock
theorem PfT.get {s:Nd} (h:PfT s) (num com:Int):PfT { s with pf:=s.pf.get num com }:=by
 unfold Pf.get
 split
 ·exact h
 ·cases hq:s.pf.asked.find? (fun q=>q.1==num) with
  | none=>exact h
  | some q=>have h1:=h.ak q (List.mem_of_find?_eq_some hq);exact⟨h1.1,h1.2,h.ak⟩
theorem PfT.drop {s:Nd} (hc:0≤s.clock):PfT { s with pf:=s.pf.drop }:=⟨Int.le_refl _,hc,fun q hq=>by cases hq⟩
theorem PfT.ask {s:Nd} (h:PfT s) (hc:0≤s.clock):PfT { s with pf:=s.pf.ask s.clock }:=
 ⟨h.b0,h.b1,fun q hq=>by
  have hq:q ∈ Z56 (s.pf.asked++[(s.pf.num+1,s.clock)]):=hq
  rcases List.mem_append.1 (List.mem_of_mem_drop hq) with h1 | h1
  ·exact h.ak q h1
  ·rw [List.mem_singleton.1 h1];exact⟨hc,Int.le_refl _⟩⟩
theorem PfT.clk {s:Nd} (h:PfT s):PfT { s with clock:=s.clock+1 }:=
 ⟨h.b0,by show s.pf.bc≤s.clock+1;have:=h.b1;omega,fun q hq=>by have:=h.ak q hq;show 0≤q.2∧q.2≤s.clock+1;omega⟩
theorem PfT.of {s t:Nd} (h:PfT s) (e:t.pf=s.pf) (ec:t.clock=s.clock):PfT t:=
 ⟨by rw [e];exact h.b0,by rw [e,ec];exact h.b1,by rw [e,ec];exact h.ak⟩
theorem Zdd (s:Nd) (e:Ent):(s.add e).pf=s.pf∧(s.add e).clock=s.clock:=by
 unfold Nd.add;dsimp only;split<;>exact⟨rfl,rfl⟩
theorem Z9k:∀ (l:List Ent) (s:Nd),(l.foldl Nd.add s).pf=s.pf∧(l.foldl Nd.add s).clock=s.clock
 | [],s=>⟨rfl,rfl⟩
 | e :: l,s=>⟨(Z9k l (s.add e)).1.trans (Zdd s e).1,(Z9k l (s.add e)).2.trans (Zdd s e).2⟩
theorem PfT.propose {s:Nd} (h:PfT s) (hc:0≤s.clock):PfT s.propose.1:=by
 unfold Nd.propose;dsimp only;split
 ·exact h
 ·exact (PfT.drop hc).of rfl rfl
theorem PfT.gather {s:Nd} (h:PfT s) (hc:0≤s.clock) (u:Int) (l:List Vt):PfT (s.gather u l).1:=by
 unfold Nd.gather
 split
 ·exact h.of rfl rfl
 ·split
  ·exact h.propose hc
  ·exact h
theorem PfT.decide_ {s:Nd} (h:PfT s) (hc:0≤s.clock):PfT s.decide_.1:=by
 obtain⟨e1,e2⟩:=Z9k s.pend s
 have h1:PfT (s.pend.foldl Nd.add s):=h.of e1 e2
 have a0:0≤(s.pend.foldl Nd.add s).clock:=by rw [e2];exact hc
 unfold Nd.decide_
 dsimp only
 split
 ·exact h1.propose a0
 ·exact (h1.ask a0).of rfl rfl
theorem PfT.tick0 {s:Nd} (h:PfT s) (hc:0≤s.clock):PfT s.tick0.1:=by
 have hr:PfT (if s.decides then s.decide_ else if s.late then s.propose else if s.in_ then s.ask else (s,[])).1:=by
  split
  ·exact h.decide_ hc
  ·split
   ·exact h.propose hc
   ·split
    ·exact (h.ask hc).of rfl rfl
    ·exact h
 unfold Nd.tick0
 dsimp only
 split
 ·exact h
 ·cases s.v with
  | none=>exact hr
  | some ul=>
    obtain⟨u,l⟩:=ul
    show PfT (if u==s.dv then s.gather u l else (if s.decides then s.decide_ else if s.late then s.propose else if s.in_ then s.ask else (s,[]))).1
    split
    ·exact h.gather hc u l
    ·exact hr
theorem PfT.tick {s:Nd} (h:PfT s) (hc:0≤s.clock):PfT s.tick.1:=
 (h.clk.tick0 (show 0≤s.clock+1 by omega)).of rfl rfl
theorem PfT.hasF {s:Nd} (h:PfT s) (P:Int):∀ k,k≤s.asked.length→PfT (hasF P s k).1
 | 0,_=>h
 | k+1,hk=>by
   have ih:=PfT.hasF h P k (by omega)
   rw [Z3e P s (by omega)]
   by_cases hc:P<(s.asked[k]'(by omega)).2.2
   ·rw [Z1w _ _ _ hc];exact ih
   ·by_cases hi:(s.asked[k]'(by omega)).1=(Go.Proofs.YtbonjbokofkafaaGreat.hasF P s k).1.id
    ·rw [Z2a _ _ _ hc hi];exact ih.get _ _
    ·rw [Z2b _ _ _ hc hi];exact ih
theorem PfT.hasM {s:Nd} (h:PfT s) (m:Ms):PfT (s.hasM m).1:=by
 rw [Z3n]
 unfold Nd.hasG
 split
 ·split
  ·exact h.of rfl rfl
  ·exact ((h.of (t:=s.has1 m) rfl rfl).hasF _ _ (Nat.le_refl _)).of rfl rfl
 ·exact h
theorem Zde (f:Int):∀ (l:List Ent) (s:Nd),(l.foldl (srvF f) s).pf=s.pf∧(l.foldl (srvF f) s).clock=s.clock
 | [],s=>⟨rfl,rfl⟩
 | e :: l,s=>by
   have h1:(srvF f s e).pf=s.pf∧(srvF f s e).clock=s.clock:=by unfold srvF;split;exact Zdd s e;exact⟨rfl,rfl⟩
   exact⟨(Zde f l (srvF f s e)).1.trans h1.1,(Zde f l (srvF f s e)).2.trans h1.2⟩
theorem PfT.serve {s:Nd} (h:PfT s) (m:Ms):PfT (s.serve m).1:=by
 unfold Nd.serve
 split
 ·split
  ·exact h.hasM m
  ·exact h
 ·split
  ·obtain⟨e1,e2⟩:=Zde m.frm m.ents s
   exact h.of e1 e2
  ·split
   ·exact h
   ·split
    ·show PfT (if _ then _ else _)
     split
     ·exact h.of rfl rfl
     ·exact h
    ·exact h
theorem PfT.hears {s:Nd} (h:PfT s) (hc:0≤s.clock) (m:Ms):PfT (s.hears m).1:=by
 unfold Nd.hears
 split
 ·unfold Nd.proposed;dsimp only;repeat' split
  all_goals first | exact h | exact (PfT.drop hc).of rfl rfl
 ·split
  ·show PfT (if _ then _ else _)
   split
   ·exact h.of rfl rfl
   ·exact h
  ·split
   ·cases s.v with
    | none=>exact h
    | some ul=>
      obtain⟨u,l⟩:=ul
      show PfT (if _ then _ else _)
      split
      ·exact h.of rfl rfl
      ·exact h
   ·split
    ·unfold Nd.installed;dsimp only;repeat' split
     all_goals first | exact h | exact (PfT.drop hc).of rfl rfl | exact h.of rfl rfl
    ·split
     ·unfold Nd.append;dsimp only;split
      ·exact h
      ·cases Z6p s.L m.pos m.ents
       ·exact h.of rfl rfl
       ·exact h.of rfl rfl
     ·split
      ·show PfT (if _ then _ else _)
       split
       ·exact h.get _ _
       ·exact h
      ·split
       ·exact h.serve m
       ·exact h
theorem PfT.hear {s:Nd} (h:PfT s) (hc:0≤s.clock) (m:Ms):PfT (s.hear m).1:=by
 unfold Nd.hear
 split
 ·exact h
 ·show PfT ((s.heard_ m).hear0 m).1.settle
  have h1:PfT (s.heard_ m):=h.of rfl rfl
  have h2:PfT ((s.heard_ m).hear0 m).1:=by
   unfold Nd.hear0
   split
   ·exact h1
   ·split
    ·unfold Nd.state
     split
     ·exact h1
     ·exact h1.of rfl rfl
    ·exact h1.hears hc m
  exact h2.of rfl rfl
end
end Go.Proofs.YtbonjbokofkafaaGreat
