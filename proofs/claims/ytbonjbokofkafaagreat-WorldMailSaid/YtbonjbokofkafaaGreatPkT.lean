/- Lemmas of the proof: PkT. -/
import Derived.Test.YtbonjbokofkafaaGreatPkS
import Derived.Test.YtbonjbokofkafaaGreatPkI
import Derived.Test.YtbonjbokofkafaaGreatPkJ
namespace Go.Proofs.YtbonjbokofkafaaGreat
set_option linter.unusedVariables false
set_option maxRecDepth 100000
set_option maxHeartbeats 64000000
section
open Go.RowKit
theorem Zb0 (own:Nat→Nat) (n K:Nat) (wf:∀ c,n≤c→own c=0):∃ j,K+12<j∧∀ c,own c≠j:=by
 have a0:∀ n:Nat,∃ S,∀ c,c<n→own c≤S:=by
  intro n
  induction n with
  | zero=>exact⟨0,fun c hc=>by omega⟩
  | succ n ih=>
    obtain⟨S,hS⟩:=ih
    refine⟨max S (own n),fun c hc=>?_⟩
    rcases (by omega:c<n∨c=n) with h | rfl
    ·have:=hS c h;omega
    ·omega
 obtain⟨S,hS⟩:=a0 n
 refine⟨K+13+S,by omega,fun c e=>?_⟩
 rcases Nat.lt_or_ge c n with h | h
 ·have:=hS c h;omega
 ·have:=wf c h;omega
theorem Turn.loc {own own1 own2:Nat→Nat} {w w1 w2:World} {J:Nat→Prop} {j:Nat} (hf:∀ c,own c≠j) (t1:Turn (fun _=>False) own own1 w w1) (t2:Turn (fun o=>J o∨o=j) own1 own2 w1 w2):Turn J own own2 w w2:=
 ⟨(t1.chg.mono fun _ _ h=>h.elim).more t2.chg fun i hi=>by
   rcases Nat.lt_or_ge i w.heap.size with h | h
   ·rw [t1.old i h] at hi
    exact .inl (hi.elim id fun e=>absurd e (hf i))
   ·exact .inr h,fun c hc=>(t2.old c (Nat.lt_of_lt_of_le hc t1.chg.size)).trans (t1.old c hc),t2.new⟩
theorem Zb1 (own:Nat→Nat) (K:Nat) (a:NdAt) (s:Nd) (out:List MsS) (sil:Bool) (sb xb k:Nat) (w:World) (h:NdO own K w a s out) (hs:w.heap[sb]?=some (.cells #[.bool sil] 4 (0,0))) (hx:w.cell? ⟨xb,0,none⟩=some (Z09 a.b))
  (hk:k<8) (hc0:0≤s.clock) (hc1:s.clock≤1099511627776) (he:∀ x ∈ s.ears,0≤x∧x≤s.clock) :
  Calls Tryz.prog 131 #[.int .i64 k, .pointer (some ⟨sb,0,none⟩), .pointer (some ⟨xb,0,none⟩)] w fun r w'=>r=.returned (.tuple #[])∧w'.heap[sb]?=some (.cells #[.bool (sil||decide (14≤s.clock-s.ears.getD k 0))] 4 (0,0))∧Chg (fun c=>c=sb) w w':=by
 obtain⟨y,hy⟩:∃ y,y=s.ears.getD k 0:=⟨_,rfl⟩
 have h0:0≤y∧y≤s.clock:=by
  rw [hy,List.getD_eq_getElem?_getD]
  cases e:s.ears[k]? with
  | none=>exact⟨Int.le_refl _,hc0⟩
  | some x=>exact he x (List.mem_of_getElem? e)
 have d0:=(Z00 h.blk (24+k)).trans (Zce a s h.ears k hk)
 rw [← hy] at d0 ⊢
 have c4:w.cell? ⟨a.b,4,none⟩=some (.int .i64 s.clock):=h.c 4
 have la:=h.lt
 have s0:w.cell? ⟨sb,0,none⟩=some (.bool sil):=Z00 hs 0
 have z0:=Z03 hs 0
 have j0:=Z04 hs
 obtain⟨hy0,g0⟩:=h0
 obtain⟨ck,c0⟩:∃ ck,ck=s.clock:=⟨_,rfl⟩
 rw [← c0] at c4 hc0 hc1 g0 ⊢
 replace c0:=hd_ c0;replace hy:=hd_ hy;replace h:=hd_ h;replace he:=hd_ he
 have k0:=Z0f hx
 go_enter Tryz.func131,Tryz.ntmps131
 go_upto_region 0 with (fail)
 obtain⟨d,hd⟩:∃ d,decide (14≤ck-y)=d:=⟨_,rfl⟩
 rw [hd]
 obtain⟨R,hR⟩:∃ R,R=(sil||d):=⟨_,rfl⟩
 rw [← hR]
 replace hR:=hd_ hR
 cases sil
 case false=>
  refine Z05 (fun _=>False) (.q 0 (.q 1 (.q 2 (.q 3 (.q 4 (.q 5 (.q 6 (.q 7 (.q 8 (.q 9 (.q 10 (.q 11 (.q 12 (.q 13 (.q 14 (.cut (.l 15 .fin))))))))))))))))) (by kernel_rfl) (by kernel_rfl) ?_
  intro w1 f0 a0
  have b0:=Z02 hs a0
  have u0:=Z01 (F:=fun _=>False) (b:=w1) (fun h=>h) (show w1.cell? ⟨sb,0,none⟩=some (.bool false) from Z00 b0 0)
  have ux:=Z01 (F:=fun _=>False) (b:=w1) (fun h=>h) (show w1.cell? ⟨xb,0,none⟩=some (Z09 a.b) from by rw [a0.cell k0];exact hx)
  have u4:=Z01 (F:=fun _=>False) (b:=w1) (fun h=>h) (show w1.cell? ⟨a.b,4,none⟩=some (.int .i64 ck) from by rw [a0.cell la];exact c4)
  have ue:=Z01 (F:=fun _=>False) (b:=w1) (fun h=>h) (show w1.cell? ⟨a.b,24+k,none⟩=some (.int .i64 y) from by rw [a0.cell la];exact d0)
  have q0:w1.cell? ⟨sb,0,none⟩=some (.bool false):=Z00 b0 0
  have z1:=Z03 b0 0
  have i0:=Z04 b0
  have e0:Hid (∀ u,(w1.setCell ⟨sb,0,none⟩ u).heap[sb]?=some (.cells #[u] 4 (0,0))∧Chg (fun c=>c=sb) w (w1.setCell ⟨sb,0,none⟩ u)):=hd_ fun u=>⟨Z0d b0,Z06 (.of_below a0) rfl⟩
  replace hs:=hd_ hs;replace b0:=hd_ b0;replace a0:=hd_ a0;clear f0 s0 z0 j0 hx c4 d0
  have e1:R=d:=by rw [hR.out];rfl
  replace e1:=hd_ e1
  repeat (refine Z0n rfl ?_;go_big_quiet_step (fail);refine wpQuiet_nil ?_)
  refine Z0h Z1j ?_;refine Z0j rfl (by kernel_rfl) ?_;intro K1 hK;go_simp
  refine hK _ _ (Z06 (Chg.refl _ _) trivial) ?_
  clear hK K1;refine Z0c ?_;clear u0 ux u4 ue q0 z1 i0
  go_end0
  rw [e1.out]
  exact⟨rfl,e0.out (.bool d)⟩
 case true=>
  have e1:R=true:=by rw [hR.out];rfl
  replace e1:=hd_ e1;replace hR:=hd_ hR;replace hs:=hd_ hs
  go_region
  go_end0
  rw [e1.out]
  exact⟨rfl,Z0d hs.out,(Z06 (F:=fun c=>c=sb) (Chg.refl _ w) rfl).on ((Below.refl _ _).drew)⟩
end
section
open Go.RowKit
def Nd.dec2 (s:Nd) (probe k:Int):Ms:=
 if Z18 s.acked.toNat k then { s.ms 5 k with view:=s.last,pos:=Z9i s.q k,ents:=s.L.drop (Z9i s.q k).toNat,com:=s.com,num:=probe,clock:=s.clock } else s.whole k
section
variable {own:Nat→Nat} {K:Nat} {w:World} {a:NdAt} {s:Nd} {out:List MsS}
theorem Zb2 (h:NdO own K w a s out) (b:Nat) (hb:a.b=b) (hqd:Zd3 s) (h60:s.L.length≤60) (hac:0≤s.acked∧s.acked<128) (hl:out.length≤1000000) (k:Int) (hk0:0≤Z9i s.q k) (pr:Int) (xb pb:Nat)
  (hx:w.cell? ⟨xb,0,none⟩=some (Z09 b)) (hp:w.cell? ⟨pb,0,none⟩=some (.int .i64 pr)) :
  Calls Tryz.prog 134 #[.int .i64 k, .pointer (some ⟨xb,0,none⟩), .pointer (some ⟨pb,0,none⟩)] w fun r w'=>r=.returned (.tuple #[])∧∃ own2 a2 o2,NdO own2 K w' a2 s o2∧o2.map MsS.m=out.map MsS.m++[s.dec2 pr k]∧At0 a a2∧Turn (JK K) own own2 w w':=by
 subst hb
 obtain⟨g,hg⟩:∃ g,Z18 s.acked.toNat k=g:=⟨_,rfl⟩
 have n0:w.cell? ⟨a.b,23,none⟩=some (.int .i64 s.acked):=h.c 23
 have la:=h.lt
 have b0:=hd_ (Z3g s.acked k w hac)
 rw [hg] at b0
 obtain⟨R,hR⟩:∃ R,R=s.dec2 pr k:=⟨_,rfl⟩
 rw [← hR]
 have e0:R=if g then { s.ms 5 k with view:=s.last,pos:=Z9i s.q k,ents:=s.L.drop (Z9i s.q k).toNat,com:=s.com,num:=pr,clock:=s.clock } else s.whole k:=by rw [hR];unfold Nd.dec2;rw [hg]
 replace hR:=hd_ hR;replace e0:=hd_ e0;replace hg:=hd_ hg
 have lx:=Z0f hx
 have lp:=Z0f hp
 replace h:=hd_ h
 go_enter Tryz.func134,Tryz.ntmps134
 go_wp2_with fail
 refine b0.out.mono ?_
 rintro r wx ⟨rfl,rfl⟩;clear n0 b0
 cases g
 case false=>
  have e1:R=s.whole k:=by rw [e0.out];rfl
  replace e1:=hd_ e1
  have hW:=hd_ (Z8i h.out k a.b rfl h60 (by omega))
  go_wp2_with fail
  refine hW.out.mono ?_
  rintro r w2 ⟨rfl,j0⟩;replace j0:=hd_ j0;clear hW;go_wp2
  refine bodyPost_ret (results_none rfl _ _ _) rfl ?_
  rw [e1.out]
  exact⟨rfl,j0.out⟩
 have m0:w.cell? ⟨a.b,21,none⟩=some (Z3f a.qb):=h.out.c 21
 have h0:=hd_ (ndQHave h.out hqd k)
 obtain⟨hv,f0⟩:∃ hv,hv=Z9i s.q k:=⟨_,rfl⟩
 rw [← f0] at h0 hk0
 go_wp2_with fail
 refine h0.out.mono ?_
 rintro r wx ⟨rfl,rfl⟩;clear m0 h0
 have e1:R={ s.ms 5 k with view:=s.last,pos:=hv,ents:=s.L.drop hv.toNat,com:=s.com,num:=pr,clock:=s.clock }:=by rw [e0.out,f0];rfl
 replace e1:=hd_ e1;replace f0:=hd_ f0;go_upto_region 3 with (fail)
 refine Z05 (fun _=>False) (.q 0 (.q 1 (.q 2 (.q 3 (.q 4 (.q 5 (.q 6 (.q 7 (.q 8 (.q 9 (.q 10 (.q 11 (.q 13 (.q 14 (.q 15 (.q 16 (.q 17 (.q 18 (.q 19 (.q 20 (.q 21 (.l 12 (.l 22 (.cut (.l 23 .fin))))))))))))))))))))))))) (by kernel_rfl) (by kernel_rfl) ?_
 intro w1 p0 c0
 have a0:=h.out.grow c0
 have ux:=Z01 (F:=fun _=>False) (b:=w1) (fun h=>h) (show w1.cell? ⟨xb,0,none⟩=some (Z09 a.b) from by rw [c0.cell lx];exact hx)
 have up:=Z01 (F:=fun _=>False) (b:=w1) (fun h=>h) (show w1.cell? ⟨pb,0,none⟩=some (.int .i64 pr) from by rw [c0.cell lp];exact hp)
 have u4:=Z01 (F:=fun _=>False) (b:=w1) (fun h=>h) (show w1.cell? ⟨a.b,4,none⟩=some (.int .i64 s.clock) from a0.c 4)
 have u9:=Z01 (F:=fun _=>False) (b:=w1) (fun h=>h) (show w1.cell? ⟨a.b,9,none⟩=some (Z09 a.l) from a0.c 9)
 have s0:=Z01 (F:=fun _=>False) (b:=w1) (fun h=>h) (show w1.cell? ⟨a.b,10,none⟩=some (.int .i64 s.com) from a0.c 10)
 have t0:=Z01 (F:=fun _=>False) (b:=w1) (fun h=>h) (show w1.cell? ⟨a.b,11,none⟩=some (.int .i64 s.last) from a0.c 11)
 have t1:=hd_ (Turn.grow (J:=JK K) (own:=own) c0 h.out.wf)
 have r0:=hd_ a0.r.lg.rd
 replace a0:=hd_ a0;replace c0:=hd_ c0;clear p0 hx hp;iterate 21 (refine Z0n rfl ?_;go_big_quiet_step (fail);refine wpQuiet_nil ?_)
 refine Z0j rfl (by kernel_rfl) ?_;intro K1 hK;go_simp
 refine (Z19 a.l s.L hv _ r0.out (by omega)).mono ?_
 rintro r w2 ⟨v2,rfl,g0,d0⟩
 have o0:Z4o s.L hv=s.L.drop hv.toNat:=by unfold Z4o;rw [if_neg (by omega)]
 rw [o0] at g0
 refine hK _ _ (.of_below d0) ?_
 clear hK K1
 have k0:=a0.out.grow d0
 have l0:pubE own w2 v2 (s.L.drop hv.toNat):=pubE.new g0 a0.out.wf
 have t2:=hd_ (t1.out.trans (Turn.grow (J:=JK K) d0 a0.out.wf))
 obtain⟨ad,cp,rfl⟩:=g0.rd.len
 refine Z0j rfl (by kernel_rfl) ?_;intro K1 hK;go_simp
 refine hK _ _ (.of_below d0) ?_
 clear hK K1;refine Z0h Z1j ?_;refine Z0j rfl (by kernel_rfl) ?_;intro K1 hK;go_simp
 obtain⟨M,hM⟩:∃ M:Ms,M=⟨5,0,k,0,s.last,0,0,hv,s.L.drop hv.toNat,s.com,pr,s.clock,false⟩:=⟨_,rfl⟩
 have hS:=Z6n k0 M ad cp (by rw [hM];exact l0) (by omega)
 rw [hM] at hS
 rw [List.length_drop] at hS
 refine hS.mono ?_
 rintro r w4 ⟨rfl,own4,a4,o4,i0,q0,e4,t4⟩
 refine hK _ _ (Z0l t4) ?_
 clear hK K1 hS ux up u4 u9 s0 t0;refine Z0c ?_
 have t5:=hd_ (t2.out.trans t4)
 replace i0:=hd_ i0;replace hM:=hd_ hM;clear t4 k0 l0 g0 d0;go_wp2
 go_end0
 rw [e1.out]
 exact⟨rfl,own4,a4,o4,i0.out,q0,e4,t5.out⟩
end
end
section
open Go.RowKit
theorem jkj {K j o:Nat} (h:K+12<j) (e:o=j) (h16:16≤K):¬ JK K o:=by unfold JK;omega
section
variable {own:Nat→Nat} {K:Nat} {w w':World} {a:NdAt} {s:Nd} {out:List MsS}
theorem NdO.box {own':Nat→Nat} {j:Nat} (h:NdO own K w a s out) (hj:K+12<j) (t:Turn (fun o=>o=j) own own' w w'):NdO own' K w' a s out:=by
 have hk:=h.r.k16
 exact⟨t.pub h.blk (by rw [h.r.ob];omega),h.ears,h.r.turn t (by omega) (by omega) (fun i e=>by omega)⟩
theorem Zd4 {own:Nat→Nat} {w w':World} {j:Nat} (h:Below w.heap.size w w'):Turn (fun _=>False) own (Z5q own w.heap.size w'.heap.size j) w w':=
 Turn.extJ (J:=fun _=>False) j (.of_below h)
def silN (s:Nd) (k:Int):Bool:=decide (14≤s.clock-s.ears.getD k.toNat 0)
theorem Zg9 (h:NdO own K w a s out) {j:Nat} (hj:K+12<j) (sb xb:Nat) (hob:own sb=j) (hs:w.heap[sb]?=some (.cells #[.bool false] 4 (0,0))) (hx:w.cell? ⟨xb,0,none⟩=some (Z09 a.b)) (hne:xb≠sb)
  (T:Nat) (hT:T<128) (hc0:0≤s.clock) (hc1:s.clock≤1099511627776) (he:∀ x ∈ s.ears,0≤x∧x≤s.clock) :
  Calls Tryz.prog 125 #[Z09 a.b, .int .i64 (T:Int), .func (.func 131) #[] #[.pointer (some ⟨sb,0,none⟩), .pointer (some ⟨xb,0,none⟩)]] w fun r w'=>r=.returned (.tuple #[])∧NdO own K w' a s out∧w'.heap[sb]?=some (.cells #[.bool ((Z16 s.id s.n T).any (silN s))] 4 (0,0))∧w'.cell? ⟨xb,0,none⟩=some (Z09 a.b)∧Turn (fun o=>o=j) own own w w':=by
 have h16:=h.r.k16
 have hsl:=Z04 hs
 have c0:=Z0f hx
 refine (Z4s a.b s.id s.n T hT 131 #[] #[.pointer (some ⟨sb,0,none⟩), .pointer (some ⟨xb,0,none⟩)] (Zam Tryz.func131 (by kernel_rfl) (by kernel_rfl))
  (fun wb l w1=>NdO own K w1 a s out∧w1.heap[sb]?=some (.cells #[.bool (l.any (silN s))] 4 (0,0))∧w1.cell? ⟨xb,0,none⟩=some (Z09 a.b)∧Chg (fun c=>c=sb) wb w1∧Turn (fun o=>o=j) own own w w1) w ?_ (h.c 0) ?_ ?_ ?_).mono ?_
 ·exact fun wb hb=>⟨h.grow hb,Z02 hs hb,by rw [hb.cell c0];exact hx,Chg.refl _ _, .grow hb h.wf⟩
 ·rintro wb l w1 ⟨h1,_⟩
  exact⟨h1.c 0,h1.c 1⟩
 ·rintro wb l w1 ⟨h1,_,_,h4,h5⟩ c hc1 b0
  exact h4.block c b0 (by omega)
 ·rintro wb l k w1 ⟨h1,h2,h3,h4,h5⟩ a0
  have hk:k ∈ Z16 s.id s.n T:=a0.subset (by simp)
  have hk7:1≤k∧k≤7:=by
   unfold Z16 at hk
   exact Z5c hT (by rw [Z9u];simpa using (List.mem_filter.1 hk).1)
  obtain⟨i,rfl⟩:=Int.eq_ofNat_of_zero_le (show 0≤k by omega)
  refine (Zb1 own K a s out (l.any (silN s)) sb xb i w1 h1 h2 h3 (by omega) hc0 hc1 he).mono ?_
  rintro r w2 ⟨rfl,e1,e2⟩
  have t2:Turn (fun o=>o=j) own own w1 w2:=.same (e2.mono fun k _ e=>by rw [show k=sb from e];exact hob) h1.wf
  refine⟨rfl,h1.box hj t2,?_,?_,h4.more e2 fun i e=>.inl e,h5.trans t2⟩
  ·rw [e1,List.any_append]
   simp [silN]
  ·rw [World.cell?_of_block (w:=w1) (a:=⟨xb,0,none⟩) (e2.block xb (Z0f h3) (by omega))]
   exact h3
 ·rintro r w' ⟨rfl,wb,hb,h1,h2,h3,h4,h5⟩
  exact⟨rfl,h1,h2,h3,h5⟩
theorem NdO.askApp (h:NdO own K w a s out) {w1:World} (hb:Below w.heap.size w w1) {v:Value} (q:Int × Int × Int) (hown:w'.ownsRow 0 179 3 v (s.asked.length+1) (Z1h Z1i s.asked++Z1i.cells q)) (hg:w1.grownBy w' a.av.ownBlock)
  (hat:v.ownBlock=a.av.ownBlock∨v.ownBlock=some w1.heap.size) :
  ∃ own',NdO own' K (w'.setCell ⟨a.b,32,none⟩ v) { a with av:=v } { s with asked:=s.asked++[q] } out∧Turn (fun o=>o=K∨o=K+11) own own' w (w'.setCell ⟨a.b,32,none⟩ v):=by
 have h16:=h.r.k16
 obtain⟨hav,a0⟩:=h.r.ask
 have f0:=h.r.ob
 have hbl:=h.lt
 have b0:Chg (fun c=>own c=K+11) w w':=Z10 (.of_below hb) hg fun k hk=>.inl (a0 k hk)
 have d0:Chg (fun c=>own c=K∨own c=K+11) w (w'.setCell ⟨a.b,32,none⟩ v):=Z06 (b0.mono fun _ _ e=>.inr e) (.inl f0)
 have tn:=Turn.extJ (own:=own) (J:=fun o=>o=K∨o=K+11) (K+11) d0
 have c0:=Z0g h.blk b0 (by omega)
 refine⟨_,⟨?_,h.ears,h.r.putA tn ⟨?_,?_⟩⟩,tn⟩
 ·have e:=Z0d (o:=32) (u:=v) c0
  rw [Z7a a s h.ears v] at e
  exact e
 ·have e:ownG Z1i w' 0 179 v (s.asked++[q]):=by
   unfold ownG
   rw [List.length_append,Z1u]
   exact hown
  refine e.same _ fun k hk=>Z0u rfl ?_
  rintro rfl
  rcases hat with h1 | h1
  ·have:=a0 _ (h1 ▸ hk);omega
  ·rw [hk] at h1
   injection h1 with h1
   have:=hb.size
   omega
 ·intro k hk
  have e0:=hown.lt k hk
  rcases hat with h1 | h1
  ·have h2:=a0 k (h1 ▸ hk)
   have:k<w.heap.size:=Nat.lt_of_not_le fun hge=>by rw [h.wf k hge] at h2;omega
   rw [Z3k this];exact h2
  ·rw [hk] at h1
   injection h1 with h1
   have:=hb.size
   exact Z20 (by omega) (by rw [World.size_setCell];exact e0.2)
end
end
section
open Go.RowKit
theorem Zje:(Tryz.prog.info? 179).map (fun i=>(i.zero,i.size,i.bytes))=some (some (.agg #[.int .i64 0, .int .i64 0, .int .i64 0]),3,24):=by kernel_rfl
theorem Zd5 (l:List Ent) (s:Nd) (k:Nat) (h:k<l.length):(l.take (k+1)).foldl Nd.add s=((l.take k).foldl Nd.add s).add l[k]:=by
 rw [List.take_succ_eq_append_getElem h,List.foldl_append];rfl
def Nd.decs (s:Nd):Nd:={ s with q:=s.q.map Qd.next,pf:=s.pf.ask s.clock,asked:=s.asked++[(s.id,s.pf.num+1,Zj6 s.q)] }
theorem Zga (s:Nd):s.decide_=if ((s.pend.foldl Nd.add s).others (s.pend.foldl Nd.add s).mem).any (silN (s.pend.foldl Nd.add s)) then (s.pend.foldl Nd.add s).propose else
  ((s.pend.foldl Nd.add s).decs,((s.pend.foldl Nd.add s).others (s.pend.foldl Nd.add s).mem).map ((s.pend.foldl Nd.add s).decs.dec2 (Zj6 (s.pend.foldl Nd.add s).q))):=rfl
section
variable {own:Nat→Nat} {K:Nat} {w:World} {a:NdAt} {s:Nd} {out:List MsS}
theorem Zd6 (c:Nat) (h:NdO own K w a s out) (hok:Okg c s) (hc:c<100000000) (hl:out.length≤100000) :
  Calls Tryz.prog 74 #[Z09 a.b] w fun r w'=>r=.returned (.tuple #[])∧Stp own K w a w' s.decide_.1 (out.map MsS.m++s.decide_.2):=by
 obtain⟨i0,hi,v7,w7,x7⟩:=info_parts Zje
 replace hi:=hd_ hi
 have p3:=h.r.k16
 obtain⟨j,hj,p6⟩:=Zb0 own w.heap.size K h.wf
 obtain⟨W0,s3⟩:∃ W,W=w.alloc (.cells #[Z09 a.b] 30):=⟨_,rfl⟩
 have k5:Below w.heap.size w W0:=s3 ▸ (Below.refl _ _).alloc (Nat.le_refl _) _
 obtain⟨xb,j5⟩:∃ xb,xb=w.heap.size:=⟨_,rfl⟩
 have q2:W0.heap[xb]?=some (.cells #[Z09 a.b] 30 (0,0)):=s3 ▸ j5 ▸ Z0a _ _
 have t0:Turn (fun _=>False) own (Z5q own w.heap.size W0.heap.size j) w W0:=Zd4 k5
 obtain⟨own0,k0⟩:∃ o,o=Z5q own w.heap.size W0.heap.size j:=⟨_,rfl⟩
 rw [← k0] at t0
 have x6:own0 xb=j:=by rw [k0];exact Z20 (by omega) (Z04 q2)
 have i2:NdO own0 K W0 a s out:=h.box hj (t0.mono fun _ h=>h.elim)
 obtain⟨R,hR⟩:∃ R,R=s.decide_:=⟨_,rfl⟩
 rw [← hR]
 rw [Zga] at hR
 obtain⟨P,hP⟩:∃ P,P=s.pend:=⟨_,rfl⟩
 rw [← hP] at hR
 have hPl:P.length≤4:=by rw [hP];exact hok.pd
 have x0:W0.cell? ⟨xb,0,none⟩=some (Z09 a.b):=Z00 q2 0
 have e7:W0.cell? ⟨a.b,13,none⟩=some (Z09 a.p):=i2.c 13
 have z7:=i2.lt
 have b8:=Z04 q2
 have v2:=hd_ (Z8m a.p s.id s.boot s.pseq s.pend _ W0 i2.r.pn (by have:=hok.pd;omega))
 rw [← hP] at v2
 replace hR:=hd_ hR;replace hP:=hd_ hP;replace h:=hd_ h;replace hok:=hd_ hok;replace i2:=hd_ i2;replace q2:=hd_ q2;replace t0:=hd_ t0;replace k0:=hd_ k0;replace k5:=hd_ k5
 go_enter Tryz.func74,Tryz.ntmps74
 go_upto_region 1 with (fail)
 rw [← s3,← j5]
 replace s3:=hd_ s3;replace j5:=hd_ j5;go_wp2_with fail
 refine v2.out.mono ?_
 rintro r w1 ⟨v1,rfl,q6,s4⟩
 have i6:=i2.out.grow s4
 have i3:pubE own0 w1 v1 P:=pubE.new q6 i2.out.wf
 have v6:=Z02 q2.out s4
 have t1:=Turn.grow (J:=JK K) s4 i2.out.wf
 obtain⟨ad,cp,rfl,hcl,j7,_⟩:=i3.1
 unfold maxLen at j7
 have h7:Hid (∃ own',NdO own' K w1 a ((P.take 0).foldl Nd.add s) out∧Turn (JK K) own0 own' W0 w1∧pubE own' w1 (.slice ad P.length cp) P∧w1.heap[xb]?=some (.cells #[Z09 a.b] 30 (0,0))):=hd_ ⟨own0,i6,t1,i3,v6⟩
 clear v2 i6 i3 v6 t1 q6 s4 x0 e7 z7 b8;go_wp2
 go_loopw [12,3] (fun i _ wr=>∃ k:Nat,k≤P.length∧i=.int .i64 k∧Hid (∃ own',NdO own' K wr a ((P.take k).foldl Nd.add s) out∧Turn (JK K) own0 own' W0 wr∧pubE own' wr (.slice ad P.length cp) P∧wr.heap[xb]?=some (.cells #[Z09 a.b] 30 (0,0)))) (fun i _ _=>P.length-(intOf i).toNat)
 case atStart=>exact⟨0,Nat.zero_le _,rfl,h7⟩
 case round=>
  obtain⟨k,hk,rfl,hI⟩:=hrel
  by_cases hlt:k<P.length
  ·obtain⟨own2,k1,t2,c2,f2⟩:=hI.out
   obtain⟨aa,cc,r7,_,_,k6⟩:=c2.1
   injection r7 with z1 z2 z3
   subst z1 z3
   obtain⟨gb,off,rfl,l6⟩:=k6 (by omega)
   have m6:=l6 k hlt
   have w3:=Zd5 P s k hlt
   obtain⟨x,hx⟩:∃ x,x=P[k]:=⟨_,rfl⟩
   rw [← hx] at m6 w3
   replace hx:=hd_ hx
   obtain⟨d0,d1,d2,d3,d4,d5,d6⟩:=m6
   have b0:=Okg.adds (P.take k) hok.out
   obtain⟨s2,p2⟩:∃ s2,s2=(P.take k).foldl Nd.add s:=⟨_,rfl⟩
   rw [← p2] at k1 w3 b0
   obtain⟨W3,r0⟩:∃ W,W=wr.alloc (.cells #[.int .i64 x.frm, .int .i64 x.boot, .int .i64 x.seq, .int .i64 x.ord, .int .i64 x.lev, .int .i64 x.stamp, .string x.data] 134):=⟨_,rfl⟩
   have j1:Below wr.heap.size wr W3:=r0 ▸ (Below.refl _ _).alloc (Nat.le_refl _) _
   obtain⟨nb,v4⟩:∃ nb,nb=wr.heap.size:=⟨_,rfl⟩
   have o1:W3.heap[nb]?=some (.cells #[.int .i64 x.frm, .int .i64 x.boot, .int .i64 x.seq, .int .i64 x.ord, .int .i64 x.lev, .int .i64 x.stamp, .string x.data] 134 (0,0)):=r0 ▸ v4 ▸ Z0a _ _
   have j2:=k1.grow j1
   have t3':=Turn.grow (J:=JK K) j1 k1.wf
   have t3:=t2.trans t3'
   have j3:=c2.turn t3' (jk0 p3)
   have g2:=Z02 f2 j1
   have y0:=Z00 o1 0
   have y1:=Z00 o1 1
   have y2:=Z00 o1 2
   have y3:=Z00 o1 3
   have y4:=Z00 o1 4
   have y5:=Z00 o1 5
   have y6:=Z00 o1 6
   simp only [List.getElem?_toArray,List.getElem?_cons_zero,List.getElem?_cons_succ] at y0 y1 y2 y3 y4 y5 y6
   have ly:=Z04 o1
   have xc:W3.cell? ⟨xb,0,none⟩=some (Z09 a.b):=Z00 g2 0
   have lx:=Z04 g2
   have q3:=hd_ (Zej j2 b0.qdok b0.lg x)
   have g1:own2 xb=j:=(t2.old xb (Z04 q2.out)).trans x6
   replace k1:=hd_ k1;replace j2:=hd_ j2;replace t2:=hd_ t2;replace t3:=hd_ t3;replace t3':=hd_ t3';replace c2:=hd_ c2;replace j3:=hd_ j3;replace f2:=hd_ f2;replace g2:=hd_ g2;replace o1:=hd_ o1;replace b0:=hd_ b0;replace p2:=hd_ p2;replace w3:=hd_ w3;replace j1:=hd_ j1;replace g1:=hd_ g1;clear k6 l6;go_upto_region 4 with (fail)
   rw [← r0,← v4]
   replace r0:=hd_ r0;replace v4:=hd_ v4;clear d0 d1 d2 d3 d4 d5 d6;go_wp2_with fail
   refine q3.out.mono ?_
   rintro r w4 ⟨rfl,own4,k2,t4⟩
   rw [← w3.out] at k2
   have p5:Hid (∃ own',NdO own' K w4 a ((P.take (k+1)).foldl Nd.add s) out∧Turn (JK K) own0 own' W0 w4∧pubE own' w4 (.slice (some ⟨gb,off,none⟩) P.length cp) P∧w4.heap[xb]?=some (.cells #[Z09 a.b] 30 (0,0))):=hd_
    ⟨own4,k2,t3.out.trans t4,j3.out.turn t4 (jk0 p3),t4.pub g2.out (jkj hj g1.out p3)⟩
   clear y0 y1 y2 y3 y4 y5 y6 ly xc lx q3 k2 t4;go_wp2
   go_roundw
   case rel=>exact⟨k+1,by omega,by go_num,p5⟩
   case measure=>simp [intOf];omega
  ·obtain rfl:k=P.length:=by omega
   rw [List.take_length] at hI
   obtain⟨own2,k1,t2,_,f2⟩:=hI.out
   have b0:=Okg.adds P hok.out
   obtain⟨s2,p2⟩:∃ s2,s2=P.foldl Nd.add s:=⟨_,rfl⟩
   rw [← p2] at k1 b0
   have q4:=hR.out
   rw [← p2] at q4
   have g1:own2 xb=j:=(t2.old xb (Z04 q2.out)).trans x6
   -- the box of the silent
   obtain⟨W3,r0⟩:∃ W,W=wr.alloc (.cells #[.bool false] 4):=⟨_,rfl⟩
   have j1:Below wr.heap.size wr W3:=r0 ▸ (Below.refl _ _).alloc (Nat.le_refl _) _
   obtain⟨sb,e5⟩:∃ sb,sb=wr.heap.size:=⟨_,rfl⟩
   have c5:W3.heap[sb]?=some (.cells #[.bool false] 4 (0,0)):=r0 ▸ e5 ▸ Z0a _ _
   have t3':Turn (fun _=>False) own2 (Z5q own2 wr.heap.size W3.heap.size j) wr W3:=Zd4 j1
   obtain⟨own3,l0⟩:∃ o,o=Z5q own2 wr.heap.size W3.heap.size j:=⟨_,rfl⟩
   rw [← l0] at t3'
   have s7:own3 sb=j:=by rw [l0];exact Z20 (by omega) (Z04 c5)
   have j2:NdO own3 K W3 a s2 out:=k1.box hj (t3'.mono fun _ h=>h.elim)
   have g2:=Z02 f2 j1
   have m4:own3 xb=j:=(t3'.old xb (Z04 f2)).trans g1
   have m7:xb≠sb:=by have:=Z04 f2;omega
   have t3:Turn (fun o=>JK K o∨o=j) own0 own3 W0 W3:=(t2.mono fun o e=>.inl e).trans (t3'.mono fun _ h=>h.elim)
   replace k1:=hd_ k1;replace j2:=hd_ j2;replace t2:=hd_ t2;replace t3:=hd_ t3;replace f2:=hd_ f2;replace g2:=hd_ g2;replace c5:=hd_ c5;replace b0:=hd_ b0;replace p2:=hd_ p2;replace q4:=hd_ q4;replace j1:=hd_ j1;replace l0:=hd_ l0;clear t3';go_upto_region 7 with (fail)
   rw [← r0,← e5]
   replace r0:=hd_ r0;replace e5:=hd_ e5
   refine Z05 (fun _=>False) (.q 0 (.q 1 (.q 2 (.q 3 (.q 4 (.l 5 (.cut (.l 6 .fin)))))))) (by kernel_rfl) (by kernel_rfl) ?_
   intro w4 k7 m3
   have k2:=j2.out.grow m3
   have k4:=Z02 g2.out m3
   have v5:=Z02 c5.out m3
   have ux:=Z01 (F:=fun _=>False) (b:=w4) (fun h=>h) (show w4.cell? ⟨xb,0,none⟩=some (Z09 a.b) from Z00 k4 0)
   have g6:=Z01 (F:=fun _=>False) (b:=w4) (fun h=>h) (show w4.cell? ⟨a.b,12,none⟩=some (.int .i64 s2.mem) from k2.c 12)
   have t4:=hd_ (t3.out.trans ((Turn.grow (J:=fun o=>JK K o∨o=j) m3 j2.out.wf)))
   have n5:=hd_ (Zg9 k2 hj sb xb s7 v5 (Z00 k4 0) m7 s2.mem.toNat (by have:=b0.out.m0;have:=b0.out.m1;omega) b0.out.c0 (by have:=b0.out.c1;omega) b0.out.er)
   have o5:((s2.mem.toNat:Nat):Int)=s2.mem:=by have:=b0.out.m0;omega
   rw [o5] at n5
   replace o5:=hd_ o5
   have x5:=Z04 k4
   replace k2:=hd_ k2;replace k4:=hd_ k4;replace v5:=hd_ v5;replace m3:=hd_ m3;clear k7;iterate 5 (refine Z0n rfl ?_;go_big_quiet_step (fail);refine wpQuiet_nil ?_)
   refine Z0j rfl (by kernel_rfl) ?_;intro K1 hK;go_simp
   refine hK _ _ (Chg.refl _ _) ?_
   clear hK K1;refine Z0h Z1j ?_;refine Z0j rfl (by kernel_rfl) ?_;intro K1 hK;go_simp
   refine n5.out.mono ?_
   rintro r w5 ⟨rfl,l3,g4,z5,t5'⟩
   refine hK _ _ (Z0l t5') ?_
   clear hK K1 ux g6 n5;refine Z0c ?_
   have t5:=hd_ (t4.out.trans (t5'.mono fun o e=>.inr e))
   obtain⟨g,hg⟩:∃ g,(Z16 s2.id s2.n s2.mem.toNat).any (silN s2)=g:=⟨_,rfl⟩
   rw [hg] at g4
   have r4:R=if g then s2.propose else (s2.decs,(s2.others s2.mem).map (s2.decs.dec2 (Zj6 s2.q))):=by rw [q4.out,← hg];rfl
   replace r4:=hd_ r4;replace hg:=hd_ hg
   have d7:w5.cell? ⟨sb,0,none⟩=some (.bool g):=Z00 g4 0
   have z6:=Z04 g4
   have b7:=Z0f z5
   replace l3:=hd_ l3;replace g4:=hd_ g4;clear t5' x5
   cases g
   case true=>
    have c3:R=s2.propose:=by rw [r4.out];rfl
    replace c3:=hd_ c3
    have j6:=hd_ (Z43 c l3.out b0.out.toOk (by omega))
    go_wp2_with fail
    refine j6.out.mono ?_
    rintro r w6 ⟨rfl,own6,a6,o6,l2,q7,e6,t6⟩
    have t7:=hd_ (Turn.loc p6 t0.out (t5.out.trans (t6.mono fun o e=>.inl e)))
    replace l2:=hd_ l2;clear j6 t6 d7 z6;go_wp2
    refine bodyPost_ret (results_none rfl _ _ _) rfl ?_
    rw [c3.out]
    exact⟨rfl,own6,a6,o6,l2.out,q7,e6,t7.out⟩
   have m5:=hd_ (ndQNext l3.out b0.out.qdok ⟨by have:=b0.out.i1;omega,by have:=b0.out.in_;have:=b0.out.n7;omega⟩ (fun q hq=>by obtain⟨_,_,_,_,_,a6,_⟩:=b0.out.qd q hq;omega))
   have f7:w5.cell? ⟨a.b,21,none⟩=some (Z3f a.qb):=l3.out.c 21
   have a8:=l3.out.lt
   obtain⟨pr,f4⟩:∃ pr,pr=Zj6 s2.q:=⟨_,rfl⟩
   rw [← f4] at m5
   replace f4:=hd_ f4;go_wp2_with fail
   refine m5.out.mono ?_
   rintro r w6 ⟨rfl,l2,t6⟩
   have b6:w6.cell? ⟨xb,0,none⟩=some (Z09 a.b):=by
    rw [World.cell?_of_block (w:=w5) (a:=⟨xb,0,none⟩) (t6.chg.block xb b7 (by rw [m4];omega))];exact z5
   have c6:=Z0f b6
   obtain⟨W7,v3⟩:∃ W,W=w6.alloc (.cells #[.int .i64 pr] 2):=⟨_,rfl⟩
   have p4:Below w6.heap.size w6 W7:=v3 ▸ (Below.refl _ _).alloc (Nat.le_refl _) _
   obtain⟨pb,b5⟩:∃ pb,pb=w6.heap.size:=⟨_,rfl⟩
   have z4:W7.heap[pb]?=some (.cells #[.int .i64 pr] 2 (0,0)):=v3 ▸ b5 ▸ Z0a _ _
   have t7':Turn (fun _=>False) own3 (Z5q own3 w6.heap.size W7.heap.size j) w6 W7:=Zd4 p4
   obtain⟨own7,n0⟩:∃ o,o=Z5q own3 w6.heap.size W7.heap.size j:=⟨_,rfl⟩
   rw [← n0] at t7'
   have r6:own7 pb=j:=by rw [n0];exact Z20 (by omega) (Z04 z4)
   obtain⟨s6,n1⟩:∃ s6:Nd,s6={ s2 with q:=s2.q.map Qd.next }:=⟨_,rfl⟩
   rw [← n1] at l2
   have r3:NdO own7 K W7 a s6 out:=l2.box hj (t7'.mono fun _ h=>h.elim)
   have n4:own7 xb=j:=(t7'.old xb c6).trans m4
   have f5:W7.cell? ⟨xb,0,none⟩=some (Z09 a.b):=by rw [p4.cell c6];exact b6
   have t7:Turn (fun o=>JK K o∨o=j) own0 own7 W0 W7:=(t5.out.trans (t6.mono fun o e=>.inl (by unfold JK;omega))).trans (t7'.mono fun _ h=>h.elim)
   have f6:=Z0f f5
   have d8:0≤s6.pf.num∧s6.pf.num<4611686018427387904∧s6.pf.asked.length≤1000000∧s6.asked.length≤1000000000∧0≤s6.clock:=by
    have h1:=b0.out.q0;have h2:=b0.out.q1;have h3:=b0.out.b3;have h4:=b0.out.qa;have h5:=b0.out.asl;have h6:=b0.out.c0
    rw [n1]
    exact⟨h1,by show s2.pf.num<_;omega,by show s2.pf.asked.length≤_;omega,by show s2.asked.length≤_;omega,h6⟩
   obtain⟨e8,f8,g8,qa4,qa5⟩:=d8
   replace l2:=hd_ l2;replace r3:=hd_ r3;replace n1:=hd_ n1;replace t7:=hd_ t7;replace z4:=hd_ z4;replace p4:=hd_ p4;replace n0:=hd_ n0;clear m5 f7 a8 t6 t7' d7 z6;go_upto_region 11 with (fail)
   rw [← v3,← b5]
   replace v3:=hd_ v3;replace b5:=hd_ b5;clear b6 c6 z5 b7
   have x3:¬ (own7 a.b=K+7∨own7 a.b=K+11):=by have:=r3.out.r.ob;omega
   have p7:¬ (own7 xb=K+7∨own7 xb=K+11):=by omega
   have o7:¬ (own7 pb=K+7∨own7 pb=K+11):=by omega
   refine Z05 (fun c=>own7 c=K+7∨own7 c=K+11) (.q 0 (.q 1 (.q 2 (.q 3 (.q 4 (.q 5 (.q 6 (.q 7 (.q 8 (.q 9 (.q 10 (.q 11 (.q 12 (.q 13 (.q 14 (.q 15 (.q 16 (.q 18 (.l 17 (.l 19 (.l 20 (.l 21 (.q 22 (.q 23 (.cut (.l 24 .fin)))))))))))))))))))))))))) (by kernel_rfl) (by kernel_rfl) ?_
   intro w8 l7 n2
   have l1:=r3.out.grow n2
   have ux:=Z01 (F:=fun c=>own7 c=K+7∨own7 c=K+11) (b:=w8) p7 (show w8.cell? ⟨xb,0,none⟩=some (Z09 a.b) from by rw [n2.cell f6];exact f5)
   have b4:=Z02 z4.out n2
   have up:=Z01 (F:=fun c=>own7 c=K+7∨own7 c=K+11) (b:=w8) o7 (show w8.cell? ⟨pb,0,none⟩=some (.int .i64 pr) from Z00 b4 0)
   have u0:=Z01 (F:=fun c=>own7 c=K+7∨own7 c=K+11) (b:=w8) x3 (show w8.cell? ⟨a.b,0,none⟩=some (.int .i64 s6.id) from l1.c 0)
   have u4:=Z01 (F:=fun c=>own7 c=K+7∨own7 c=K+11) (b:=w8) x3 (show w8.cell? ⟨a.b,4,none⟩=some (.int .i64 s6.clock) from l1.c 4)
   have h8:=Z01 (F:=fun c=>own7 c=K+7∨own7 c=K+11) (b:=w8) x3 (show w8.cell? ⟨a.b,16,none⟩=some (Z09 a.f) from l1.c 16)
   have i8:=Z01 (F:=fun c=>own7 c=K+7∨own7 c=K+11) (b:=w8) x3 (show w8.cell? ⟨a.b,32,none⟩=some a.av from (l1.c 32).trans (Z6f a s6 l1.ears))
   have t8:=hd_ (t7.out.trans (Turn.grow (J:=fun o=>JK K o∨o=j) n2 r3.out.wf))
   have g5:w8.cell? ⟨xb,0,none⟩=some (Z09 a.b):=by rw [n2.cell f6];exact f5
   replace g5:=hd_ g5;replace l1:=hd_ l1;replace b4:=hd_ b4;clear l7 f5;replace n2:=hd_ n2;iterate 18 (refine Z0n rfl ?_;go_big_quiet_step (fail);refine wpQuiet_nil ?_)
   clear ux up u0 u4 h8 i8;refine Z0j rfl (by kernel_rfl) ?_;intro K1 hK;go_simp
   refine (Zja l1.out s6.clock e8 f8 g8).mono ?_
   rintro r w9 ⟨rfl,own9,l5,t9⟩
   have x1:Chg (fun c=>own7 c=K+7∨own7 c=K+11) w8 w9:=t9.chg.mono fun _ _ e=>.inl e
   refine hK _ _ x1 ?_
   clear hK K1;refine Z0j rfl (by kernel_rfl) ?_;intro K1 hK;go_simp
   refine hK _ _ x1 ?_
   clear hK K1;refine Z0j rfl (by kernel_rfl) ?_;intro K1 hK;go_simp
   obtain⟨W10,p0⟩:∃ W,W=w9.alloc (.cells #[.int .i64 s6.id, .int .i64 (s6.pf.num+1), .int .i64 pr] 179):=⟨_,rfl⟩
   have r2:Below w9.heap.size w9 W10:=p0 ▸ (Below.refl _ _).alloc (Nat.le_refl _) _
   obtain⟨nc,x4⟩:∃ nc,nc=w9.heap.size:=⟨_,rfl⟩
   have j4:W10.heap[nc]?=some (.cells #[.int .i64 s6.id, .int .i64 (s6.pf.num+1), .int .i64 pr] 179 (0,0)):=p0 ▸ x4 ▸ Z0a _ _
   have w0:Chg (fun c=>own7 c=K+7∨own7 c=K+11) w8 W10:=x1.on r2
   rw [← p0,← x4]
   replace p0:=hd_ p0;replace x4:=hd_ x4
   refine hK _ _ w0 ?_
   clear hK K1
   have s1:=l5.r.ask
   have s0:ownG Z1i W10 0 179 a.av s6.asked:=s1.1.grow Z1i r2
   have n6:=hi.out
   refine Z0j rfl (by kernel_rfl) ?_;intro K1 hK
   refine Z6e _ (.tmp 39) (.tmp 55) 113 rfl 0 179 i0 (.agg #[.int .i64 0, .int .i64 0, .int .i64 0]) 3 24 Tryz.underlying113 n6 v7 w7 x7 rfl (by decide) a.av s6.asked.length (Z1h Z1i s6.asked) rfl s0 (.slice (some ⟨nc,0,none⟩) 1 1) 1 _ rfl (Z5y j4 rfl) ?c1 (by unfold maxLen;omega) (by omega) (Nat.zero_le _) ?_
   case c1=>
    intro u hu
    simp only [List.mem_cons,List.not_mem_nil,or_false] at hu
    rcases hu with rfl | rfl | rfl<;>rfl
   intro v11 w11 g0 f3 m2
   have z0:Chg (fun c=>own7 c=K+7∨own7 c=K+11) w8 w11:=Z10 w0 f3 fun q hq=>by
    have e1:=s1.2 q hq
    rcases Nat.lt_or_ge q w8.heap.size with h1 | h1
    ·rw [t9.old q h1] at e1;exact .inl (.inr e1)
    ·exact .inr h1
   obtain⟨ad11,n3,rfl⟩:∃ ad c,v11=.slice ad (s6.asked.length+1) c:=by
    rcases g0.2 with ⟨h,h0⟩ | ⟨g,cap,cur,h,_⟩
    ·omega
    ·exact⟨_,_,h⟩
   obtain⟨own12,w2,t12⟩:=l5.askApp r2 (s6.id,s6.pf.num+1,pr) g0 f3 m2
   have v0:w11.heap[a.b]?=some (.cells (ndC a s6) 115 (0,0)):=Z0g l1.out.blk z0 x3
   have c7:w11.cell? ⟨a.b,32,none⟩=some a.av:=(Z00 v0 32).trans (Z6f a s6 l1.out.ears)
   have j8:=Z03 v0 32
   have y7:=Z04 v0
   obtain⟨W12,r1⟩:∃ W12,W12=w11.setCell ⟨a.b,32,none⟩ (.slice ad11 (s6.asked.length+1) n3):=⟨_,rfl⟩
   rw [← r1] at w2 t12
   obtain⟨e0,f0⟩:∃ e0:Nd,e0={ s6 with pf:=s6.pf.ask s6.clock,asked:=s6.asked++[(s6.id,s6.pf.num+1,pr)] }:=⟨_,rfl⟩
   have j0:NdO own12 K W12 { a with av:=.slice ad11 (s6.asked.length+1) n3 } e0 out:=by rw [f0];exact w2
   have o4:own9 xb=j:=(t9.old xb (Nat.lt_of_lt_of_le f6 n2.out.size)).trans n4
   have e4:own9 pb=j:=(t9.old pb (Z04 b4.out)).trans r6
   have i5:w9.cell? ⟨xb,0,none⟩=some (Z09 a.b):=by
    rw [World.cell?_of_block (w:=w8) (a:=⟨xb,0,none⟩) (t9.chg.block xb (Z0f g5.out) (by rw [n4];omega))];exact g5.out
   have s5:=Z0g b4.out t9.chg (by rw [r6];omega)
   have e2:W12.cell? ⟨xb,0,none⟩=some (Z09 a.b):=by
    rw [World.cell?_of_block (w:=w9) (a:=⟨xb,0,none⟩) (t12.chg.block xb (Z0f i5) (by rw [o4];omega))];exact i5
   have g3:=Z0g s5 t12.chg (by rw [e4];omega)
   have l4:own12 xb=j:=(t12.old xb (Z0f i5)).trans o4
   have c4:own12 pb=j:=(t12.old pb (Z04 s5)).trans e4
   have t13:Turn (fun o=>JK K o∨o=j) own0 own12 W0 W12:=(t8.out.trans (t9.mono fun o e=>.inl (by unfold JK;omega))).trans (t12.mono fun o e=>.inl (by unfold JK;omega))
   replace j0:=hd_ j0;replace t13:=hd_ t13;replace v0:=hd_ v0;replace e2:=hd_ e2;replace g3:=hd_ g3;replace f0:=hd_ f0
   have i4:∃ ad c,a.av=.slice ad s6.asked.length c:=(s1.1.rd Z1i).len
   obtain⟨ada,cpa,i4⟩:=i4
   rw [i4] at c7
   replace i4:=hd_ i4;clear l5 t9 s1 s0 w2 t12 j4 i5 s5 m2 g0 f3 n6 x1 w0;go_simp
   refine hK _ _ z0 ?_
   clear hK K1 z0;iterate 2 (refine Z0n rfl ?_;go_big_quiet_step (fail);refine wpQuiet_nil ?_)
   refine Z0h Z1j ?_;refine Z0j rfl (by kernel_rfl) ?_;intro K1 hK;go_simp
   refine hK _ _ (Z06 (Chg.refl _ _) trivial) ?_
   clear hK K1;refine Z0c ?_
   rw [← r1]
   replace r1:=hd_ r1;clear c7 j8 y7
   have o2:e0=s2.decs:=by rw [f0.out,n1.out,f4.out];rfl
   have c3:R=(e0,(Z16 e0.id e0.n e0.mem.toNat).map (e0.dec2 pr)):=by rw [r4.out,o2,f4.out];rfl
   have k3:∀ k,0≤Z9i e0.q k:=fun k=>by
    rw [f0.out,n1.out]
    show 0≤Z9i (s2.q.map Qd.next) k
    cases hq:s2.q with
    | none=>exact Int.le_refl _
    | some q=>
      obtain⟨_,_,_,_,_,_,a7⟩:=b0.out.qd q hq
      show 0≤(q.next).have_ k
      unfold Qd.have_ Qd.next
      dsimp only
      split
      ·exact (Z9j (P:=fun x=>0≤x∧x≤60) a7 (by omega) _).1
      ·exact Int.le_refl _
   have b1:Zd3 e0:=fun q e=>by
    rw [f0.out,n1.out] at e ⊢
    have e:s2.q.map Qd.next=some q:=e
    cases hq:s2.q with
    | none=>rw [hq] at e;cases e
    | some q0=>
      rw [hq] at e
      injection e with e
      obtain⟨a1,a2,a3,a4,a5,a6,a7⟩:=b0.out.qd q0 hq
      rw [← e]
      exact⟨a1,a2,a3,a4,by show 0≤q0.last+1;omega⟩
   have g7:e0.L.length≤60:=by rw [f0.out,n1.out];exact b0.out.lg
   have i7:0≤e0.acked∧e0.acked<128:=by rw [f0.out,n1.out];exact⟨b0.out.a0,b0.out.a1⟩
   have hmm:0≤e0.mem∧e0.mem<128:=by rw [f0.out,n1.out];exact⟨b0.out.m0,b0.out.m1⟩
   replace c3:=hd_ c3;replace k3:=hd_ k3;replace b1:=hd_ b1;clear o2;go_upto_region 12 with (fail)
   refine Z05 (fun _=>False) (.q 0 (.q 1 (.q 2 (.q 3 (.q 4 (.l 5 (.cut (.l 6 .fin)))))))) (by kernel_rfl) (by kernel_rfl) ?_
   intro w14 q5 o0
   have p1:=j0.out.grow o0
   have f1:w14.cell? ⟨xb,0,none⟩=some (Z09 a.b):=by rw [o0.cell (Z0f e2.out)];exact e2.out
   have b2:=Z02 g3.out o0
   have ux:=Z01 (F:=fun _=>False) (b:=w14) (fun h=>h) f1
   have g6:=Z01 (F:=fun _=>False) (b:=w14) (fun h=>h) (show w14.cell? ⟨a.b,12,none⟩=some (.int .i64 e0.mem) from p1.c 12)
   have t14:=hd_ (t13.out.trans (Turn.grow (J:=fun o=>JK K o∨o=j) o0 j0.out.wf))
   have hO:=Z61 p1 e0.mem.toNat (by omega) 134 #[] #[.pointer (some ⟨xb,0,none⟩), .pointer (some ⟨pb,0,none⟩)] (Zam Tryz.func134 (by kernel_rfl) (by kernel_rfl)) (e0.dec2 pr)
    (fun own1 a1 out1 w1 k h1 e1 t1 hlen hk=>Zb2 h1 a.b e1.b b1.out g7 i7 (by omega) k (k3.out k) pr xb pb
     (by rw [World.cell?_of_block (w:=w14) (a:=⟨xb,0,none⟩) (t1.chg.block xb (Z0f f1) (jkj hj l4 p3))];exact f1)
     (by rw [World.cell?_of_block (w:=w14) (a:=⟨pb,0,none⟩) (t1.chg.block pb (Z04 b2) (jkj hj c4 p3))];exact Z00 b2 0))
   have e3:((e0.mem.toNat:Nat):Int)=e0.mem:=by omega
   rw [e3] at hO
   replace e3:=hd_ e3
   have c8:=Z0f f1
   replace hO:=hd_ hO;replace p1:=hd_ p1;replace b2:=hd_ b2;replace o0:=hd_ o0;clear q5 f1;iterate 5 (refine Z0n rfl ?_;go_big_quiet_step (fail);refine wpQuiet_nil ?_)
   refine Z0j rfl (by kernel_rfl) ?_;intro K1 hK;go_simp
   refine hK _ _ (Chg.refl _ _) ?_
   clear hK K1;refine Z0h Z1j ?_;refine Z0j rfl (by kernel_rfl) ?_;intro K1 hK;go_simp
   refine hO.out.mono ?_
   rintro r w15 ⟨rfl,own15,a15,o15,x2,r5,o3,t15⟩
   refine hK _ _ (Z0l t15) ?_
   clear hK K1 ux g6 hO;refine Z0c ?_
   have t16:=hd_ (Turn.loc p6 t0.out (t14.out.trans (t15.mono fun o e=>.inl e)))
   replace x2:=hd_ x2;clear t15;go_wp2
   go_end0
   rw [c3.out]
   exact⟨rfl,own15,a15,o15,x2.out,r5,⟨o3.b,o3.dk,o3.od,o3.cs,o3.T⟩,t16.out⟩
end
end
section
open Go.RowKit
def TellP:(Nat→Nat)→World→Nd→Prop:=fun own w s=>M0 own w∧Tell s
theorem Zen:SetOk TellP:=fun own K w a s out h hp=>Zd1 h hp.1 hp.2
section
variable {own:Nat→Nat} {K:Nat} {w:World} {a:NdAt} {s:Nd}
theorem Zb3 (c:Nat) (h:NdO own K w a s []) (hm:M0 own w) (hok:Okg c s) (hc:c<500000) (hj:s.knows=false→s.v=none) :
  Calls Tryz.prog 23 #[Z09 a.b] w fun r w'=>∃ v,r=.returned v∧Zfx own K w a w' s.tick.1 s.tick.2 v:=by
 have a0:=h.r.k16
 refine xTick_of Zen c h hok.toOk (by omega) hj (fun own1 w1 t=>⟨hm.turn a0 t,(hok.clk.tick0 (by omega)).tell (by omega)⟩) (fun hd own1 w1 hN=>?_) (fun hd own1 w1 hN=>?_)
 ·have:=Zd6 (c+1) hN hok.clk (by omega) (by simp)
  simpa using this
 ·have:=xAsk_any (c+1) hN hok.clk.toOk (by omega) (by have:=hok.pd;show s.pend.length≤1000;omega) (by simp)
  simpa using this
end
end
end Go.Proofs.YtbonjbokofkafaaGreat
