/- Lemmas of the proof: PkT. -/
import Derived.Test.YtbonjbokofkafaaGreatPkS
import Derived.Test.YtbonjbokofkafaaGreatPkI
import Derived.Test.YtbonjbokofkafaaGreatPkJ
namespace Go.Proofs.YtbonjbokofkafaaGreat
set_option linter.unusedVariables false
set_option maxRecDepth 100000
set_option maxHeartbeats 64000000
section
open Go.RowKit
theorem Zb0 (own:Nat→Nat) (n K:Nat) (wf:∀ c,n≤c→own c=0):∃ j,K+12<j∧∀ c,own c≠j:=by
 have key:∀ n:Nat,∃ S,∀ c,c<n→own c≤S:=by
  intro n
  induction n with
  | zero=>exact⟨0,fun c hc=>by omega⟩
  | succ n ih=>
    obtain⟨S,hS⟩:=ih
    refine⟨max S (own n),fun c hc=>?_⟩
    rcases (by omega:c<n∨c=n) with h | rfl
    ·have:=hS c h;omega
    ·omega
 obtain⟨S,hS⟩:=key n
 refine⟨K+13+S,by omega,fun c e=>?_⟩
 rcases Nat.lt_or_ge c n with h | h
 ·have:=hS c h;omega
 ·have:=wf c h;omega
theorem Turn.loc {own own1 own2:Nat→Nat} {w w1 w2:World} {J:Nat→Prop} {j:Nat} (hf:∀ c,own c≠j) (t1:Turn (fun _=>False) own own1 w w1) (t2:Turn (fun o=>J o∨o=j) own1 own2 w1 w2):Turn J own own2 w w2:=
 ⟨(t1.chg.mono fun _ _ h=>h.elim).more t2.chg fun i hi=>by
   rcases Nat.lt_or_ge i w.heap.size with h | h
   ·rw [t1.old i h] at hi
    exact .inl (hi.elim id fun e=>absurd e (hf i))
   ·exact .inr h,fun c hc=>(t2.old c (Nat.lt_of_lt_of_le hc t1.chg.size)).trans (t1.old c hc),t2.new⟩
theorem Zb1 (own:Nat→Nat) (K:Nat) (a:NdAt) (s:Nd) (out:List MsS) (sil:Bool) (sb xb k:Nat) (w:World) (h:NdO own K w a s out) (hs:w.heap[sb]?=some (.cells #[.bool sil] 4 (0,0))) (hx:w.cell? ⟨xb,0,none⟩=some (Z09 a.b))
  (hk:k<8) (hc0:0≤s.clock) (hc1:s.clock≤1099511627776) (he:∀ x ∈ s.ears,0≤x∧x≤s.clock) :
  Calls Tryz.prog 131 #[.int .i64 k, .pointer (some ⟨sb,0,none⟩), .pointer (some ⟨xb,0,none⟩)] w fun r w'=>r=.returned (.tuple #[])∧w'.heap[sb]?=some (.cells #[.bool (sil||decide (14≤s.clock-s.ears.getD k 0))] 4 (0,0))∧Chg (fun c=>c=sb) w w':=by
 obtain⟨y,hy⟩:∃ y,y=s.ears.getD k 0:=⟨_,rfl⟩
 have hyb:0≤y∧y≤s.clock:=by
  rw [hy,List.getD_eq_getElem?_getD]
  cases e:s.ears[k]? with
  | none=>exact⟨Int.le_refl _,hc0⟩
  | some x=>exact he x (List.mem_of_getElem? e)
 have hec:=(Z00 h.blk (24+k)).trans (Zce a s h.ears k hk)
 rw [← hy] at hec ⊢
 have c4:w.cell? ⟨a.b,4,none⟩=some (.int .i64 s.clock):=h.c 4
 have la:=h.lt
 have s0:w.cell? ⟨sb,0,none⟩=some (.bool sil):=Z00 hs 0
 have z0:=Z03 hs 0
 have lsb:=Z04 hs
 obtain⟨hy0,hy1⟩:=hyb
 obtain⟨ck,hck⟩:∃ ck,ck=s.clock:=⟨_,rfl⟩
 rw [← hck] at c4 hc0 hc1 hy1 ⊢
 replace hck:=hd_ hck
 replace hy:=hd_ hy
 replace h:=hd_ h
 replace he:=hd_ he
 have lxb:=Z0f hx
 go_enter Tryz.func131,Tryz.ntmps131
 go_upto_region 0 with (fail)
 obtain⟨d,hd⟩:∃ d,decide (14≤ck-y)=d:=⟨_,rfl⟩
 rw [hd]
 obtain⟨R,hR⟩:∃ R,R=(sil||d):=⟨_,rfl⟩
 rw [← hR]
 replace hR:=hd_ hR
 cases sil
 case false=>
  refine Z05 (fun _=>False) (.q 0 (.q 1 (.q 2 (.q 3 (.q 4 (.q 5 (.q 6 (.q 7 (.q 8 (.q 9 (.q 10 (.q 11 (.q 12 (.q 13 (.q 14 (.cut (.l 15 .fin))))))))))))))))) (by kernel_rfl) (by kernel_rfl) ?_
  intro w1 hh1 hb1
  have hs1:=Z02 hs hb1
  have u0:=Z01 (F:=fun _=>False) (b:=w1) (fun h=>h) (show w1.cell? ⟨sb,0,none⟩=some (.bool false) from Z00 hs1 0)
  have ux:=Z01 (F:=fun _=>False) (b:=w1) (fun h=>h) (show w1.cell? ⟨xb,0,none⟩=some (Z09 a.b) from by rw [hb1.cell lxb];exact hx)
  have u4:=Z01 (F:=fun _=>False) (b:=w1) (fun h=>h) (show w1.cell? ⟨a.b,4,none⟩=some (.int .i64 ck) from by rw [hb1.cell la];exact c4)
  have ue:=Z01 (F:=fun _=>False) (b:=w1) (fun h=>h) (show w1.cell? ⟨a.b,24+k,none⟩=some (.int .i64 y) from by rw [hb1.cell la];exact hec)
  have q0:w1.cell? ⟨sb,0,none⟩=some (.bool false):=Z00 hs1 0
  have z1:=Z03 hs1 0
  have ls1:=Z04 hs1
  have hset:Hid (∀ u,(w1.setCell ⟨sb,0,none⟩ u).heap[sb]?=some (.cells #[u] 4 (0,0))∧Chg (fun c=>c=sb) w (w1.setCell ⟨sb,0,none⟩ u)):=hd_ fun u=>⟨Z0d hs1,Z06 (.of_below hb1) rfl⟩
  replace hs:=hd_ hs
  replace hs1:=hd_ hs1
  replace hb1:=hd_ hb1
  clear hh1 s0 z0 lsb hx c4 hec
  have e1:R=d:=by rw [hR.out];rfl
  replace e1:=hd_ e1
  repeat (refine Z0n rfl ?_;go_big_quiet_step (fail);refine wpQuiet_nil ?_)
  refine Z0h Z1j ?_
  refine Z0j rfl (by kernel_rfl) ?_
  intro K1 hK
  go_simp
  refine hK _ _ (Z06 (Chg.refl _ _) trivial) ?_
  clear hK K1
  refine Z0c ?_
  clear u0 ux u4 ue q0 z1 ls1
  go_end0
  rw [e1.out]
  exact⟨rfl,hset.out (.bool d)⟩
 case true=>
  have e1:R=true:=by rw [hR.out];rfl
  replace e1:=hd_ e1
  replace hR:=hd_ hR
  replace hs:=hd_ hs
  go_region
  go_end0
  rw [e1.out]
  exact⟨rfl,Z0d hs.out,(Z06 (F:=fun c=>c=sb) (Chg.refl _ w) rfl).on ((Below.refl _ _).drew)⟩
end
section
open Go.RowKit
def Nd.dec2 (s:Nd) (probe k:Int):Ms:=
 if Z18 s.acked.toNat k then { s.ms 5 k with view:=s.last,pos:=Z9i s.q k,ents:=s.L.drop (Z9i s.q k).toNat,com:=s.com,num:=probe,clock:=s.clock } else s.whole k
section
variable {own:Nat→Nat} {K:Nat} {w:World} {a:NdAt} {s:Nd} {out:List MsS}
theorem Zb2 (h:NdO own K w a s out) (b:Nat) (hb:a.b=b) (hqd:Zd3 s) (h60:s.L.length≤60) (hac:0≤s.acked∧s.acked<128) (hl:out.length≤1000000) (k:Int) (hk0:0≤Z9i s.q k) (pr:Int) (xb pb:Nat)
  (hx:w.cell? ⟨xb,0,none⟩=some (Z09 b)) (hp:w.cell? ⟨pb,0,none⟩=some (.int .i64 pr)) :
  Calls Tryz.prog 134 #[.int .i64 k, .pointer (some ⟨xb,0,none⟩), .pointer (some ⟨pb,0,none⟩)] w fun r w'=>r=.returned (.tuple #[])∧∃ own2 a2 o2,NdO own2 K w' a2 s o2∧o2.map MsS.m=out.map MsS.m++[s.dec2 pr k]∧At0 a a2∧Turn (JK K) own own2 w w':=by
 subst hb
 obtain⟨g,hg⟩:∃ g,Z18 s.acked.toNat k=g:=⟨_,rfl⟩
 have c23:w.cell? ⟨a.b,23,none⟩=some (.int .i64 s.acked):=h.c 23
 have la:=h.lt
 have hHas:=hd_ (Z3g s.acked k w hac)
 rw [hg] at hHas
 obtain⟨R,hR⟩:∃ R,R=s.dec2 pr k:=⟨_,rfl⟩
 rw [← hR]
 have hRe:R=if g then { s.ms 5 k with view:=s.last,pos:=Z9i s.q k,ents:=s.L.drop (Z9i s.q k).toNat,com:=s.com,num:=pr,clock:=s.clock } else s.whole k:=by rw [hR];unfold Nd.dec2;rw [hg]
 replace hR:=hd_ hR
 replace hRe:=hd_ hRe
 replace hg:=hd_ hg
 have lx:=Z0f hx
 have lp:=Z0f hp
 replace h:=hd_ h
 go_enter Tryz.func134,Tryz.ntmps134
 go_wp2_with fail
 refine hHas.out.mono ?_
 rintro r wx ⟨rfl,rfl⟩
 clear c23 hHas
 cases g
 case false=>
  have e1:R=s.whole k:=by rw [hRe.out];rfl
  replace e1:=hd_ e1
  have hW:=hd_ (Z8i h.out k a.b rfl h60 (by omega))
  go_wp2_with fail
  refine hW.out.mono ?_
  rintro r w2 ⟨rfl,hst⟩
  replace hst:=hd_ hst
  clear hW
  go_wp2
  refine bodyPost_ret (results_none rfl _ _ _) rfl ?_
  rw [e1.out]
  exact⟨rfl,hst.out⟩
 have c21:w.cell? ⟨a.b,21,none⟩=some (Z3f a.qb):=h.out.c 21
 have hHv:=hd_ (ndQHave h.out hqd k)
 obtain⟨hv,hhv⟩:∃ hv,hv=Z9i s.q k:=⟨_,rfl⟩
 rw [← hhv] at hHv hk0
 go_wp2_with fail
 refine hHv.out.mono ?_
 rintro r wx ⟨rfl,rfl⟩
 clear c21 hHv
 have e1:R={ s.ms 5 k with view:=s.last,pos:=hv,ents:=s.L.drop hv.toNat,com:=s.com,num:=pr,clock:=s.clock }:=by rw [hRe.out,hhv];rfl
 replace e1:=hd_ e1
 replace hhv:=hd_ hhv
 go_upto_region 3 with (fail)
 refine Z05 (fun _=>False) (.q 0 (.q 1 (.q 2 (.q 3 (.q 4 (.q 5 (.q 6 (.q 7 (.q 8 (.q 9 (.q 10 (.q 11 (.q 13 (.q 14 (.q 15 (.q 16 (.q 17 (.q 18 (.q 19 (.q 20 (.q 21 (.l 12 (.l 22 (.cut (.l 23 .fin))))))))))))))))))))))))) (by kernel_rfl) (by kernel_rfl) ?_
 intro w1 hh1 hb1
 have hN1:=h.out.grow hb1
 have ux:=Z01 (F:=fun _=>False) (b:=w1) (fun h=>h) (show w1.cell? ⟨xb,0,none⟩=some (Z09 a.b) from by rw [hb1.cell lx];exact hx)
 have up:=Z01 (F:=fun _=>False) (b:=w1) (fun h=>h) (show w1.cell? ⟨pb,0,none⟩=some (.int .i64 pr) from by rw [hb1.cell lp];exact hp)
 have u4:=Z01 (F:=fun _=>False) (b:=w1) (fun h=>h) (show w1.cell? ⟨a.b,4,none⟩=some (.int .i64 s.clock) from hN1.c 4)
 have u9:=Z01 (F:=fun _=>False) (b:=w1) (fun h=>h) (show w1.cell? ⟨a.b,9,none⟩=some (Z09 a.l) from hN1.c 9)
 have u10:=Z01 (F:=fun _=>False) (b:=w1) (fun h=>h) (show w1.cell? ⟨a.b,10,none⟩=some (.int .i64 s.com) from hN1.c 10)
 have u11:=Z01 (F:=fun _=>False) (b:=w1) (fun h=>h) (show w1.cell? ⟨a.b,11,none⟩=some (.int .i64 s.last) from hN1.c 11)
 have t1:=hd_ (Turn.grow (J:=JK K) (own:=own) hb1 h.out.wf)
 have hrl:=hd_ hN1.r.lg.rd
 replace hN1:=hd_ hN1
 replace hb1:=hd_ hb1
 clear hh1 hx hp
 iterate 21 (refine Z0n rfl ?_;go_big_quiet_step (fail);refine wpQuiet_nil ?_)
 refine Z0j rfl (by kernel_rfl) ?_
 intro K1 hK
 go_simp
 refine (Z19 a.l s.L hv _ hrl.out (by omega)).mono ?_
 rintro r w2 ⟨v2,rfl,ho2,hb2⟩
 have hfe:Z4o s.L hv=s.L.drop hv.toNat:=by unfold Z4o;rw [if_neg (by omega)]
 rw [hfe] at ho2
 refine hK _ _ (.of_below hb2) ?_
 clear hK K1
 have hN2:=hN1.out.grow hb2
 have hpe:pubE own w2 v2 (s.L.drop hv.toNat):=pubE.new ho2 hN1.out.wf
 have t2:=hd_ (t1.out.trans (Turn.grow (J:=JK K) hb2 hN1.out.wf))
 obtain⟨ad,cp,rfl⟩:=ho2.rd.len
 refine Z0j rfl (by kernel_rfl) ?_
 intro K1 hK
 go_simp
 refine hK _ _ (.of_below hb2) ?_
 clear hK K1
 refine Z0h Z1j ?_
 refine Z0j rfl (by kernel_rfl) ?_
 intro K1 hK
 go_simp
 obtain⟨M,hM⟩:∃ M:Ms,M=⟨5,0,k,0,s.last,0,0,hv,s.L.drop hv.toNat,s.com,pr,s.clock,false⟩:=⟨_,rfl⟩
 have hS:=Z6n hN2 M ad cp (by rw [hM];exact hpe) (by omega)
 rw [hM] at hS
 rw [List.length_drop] at hS
 refine hS.mono ?_
 rintro r w4 ⟨rfl,own4,a4,o4,hN4,ho4,e4,t4⟩
 refine hK _ _ (Z0l t4) ?_
 clear hK K1 hS ux up u4 u9 u10 u11
 refine Z0c ?_
 have t5:=hd_ (t2.out.trans t4)
 replace hN4:=hd_ hN4
 replace hM:=hd_ hM
 clear t4 hN2 hpe ho2 hb2
 go_wp2
 go_end0
 rw [e1.out]
 exact⟨rfl,own4,a4,o4,hN4.out,ho4,e4,t5.out⟩
end
end
section
open Go.RowKit
theorem jkj {K j o:Nat} (h:K+12<j) (e:o=j) (h16:16≤K):¬ JK K o:=by unfold JK;omega
section
variable {own:Nat→Nat} {K:Nat} {w w':World} {a:NdAt} {s:Nd} {out:List MsS}
theorem NdO.box {own':Nat→Nat} {j:Nat} (h:NdO own K w a s out) (hj:K+12<j) (t:Turn (fun o=>o=j) own own' w w'):NdO own' K w' a s out:=by
 have hk:=h.r.k16
 exact⟨t.pub h.blk (by rw [h.r.ob];omega),h.ears,h.r.turn t (by omega) (by omega) (fun i e=>by omega)⟩
theorem Zd4 {own:Nat→Nat} {w w':World} {j:Nat} (h:Below w.heap.size w w'):Turn (fun _=>False) own (Z5q own w.heap.size w'.heap.size j) w w':=
 Turn.extJ (J:=fun _=>False) j (.of_below h)
def silN (s:Nd) (k:Int):Bool:=decide (14≤s.clock-s.ears.getD k.toNat 0)
theorem Zg9 (h:NdO own K w a s out) {j:Nat} (hj:K+12<j) (sb xb:Nat) (hob:own sb=j) (hs:w.heap[sb]?=some (.cells #[.bool false] 4 (0,0))) (hx:w.cell? ⟨xb,0,none⟩=some (Z09 a.b)) (hne:xb≠sb)
  (T:Nat) (hT:T<128) (hc0:0≤s.clock) (hc1:s.clock≤1099511627776) (he:∀ x ∈ s.ears,0≤x∧x≤s.clock) :
  Calls Tryz.prog 125 #[Z09 a.b, .int .i64 (T:Int), .func (.func 131) #[] #[.pointer (some ⟨sb,0,none⟩), .pointer (some ⟨xb,0,none⟩)]] w fun r w'=>r=.returned (.tuple #[])∧NdO own K w' a s out∧w'.heap[sb]?=some (.cells #[.bool ((Z16 s.id s.n T).any (silN s))] 4 (0,0))∧w'.cell? ⟨xb,0,none⟩=some (Z09 a.b)∧Turn (fun o=>o=j) own own w w':=by
 have h16:=h.r.k16
 have hsl:=Z04 hs
 have hxl:=Z0f hx
 refine (Z4s a.b s.id s.n T hT 131 #[] #[.pointer (some ⟨sb,0,none⟩), .pointer (some ⟨xb,0,none⟩)] (Zam Tryz.func131 (by kernel_rfl) (by kernel_rfl))
  (fun wb l w1=>NdO own K w1 a s out∧w1.heap[sb]?=some (.cells #[.bool (l.any (silN s))] 4 (0,0))∧w1.cell? ⟨xb,0,none⟩=some (Z09 a.b)∧Chg (fun c=>c=sb) wb w1∧Turn (fun o=>o=j) own own w w1) w ?_ (h.c 0) ?_ ?_ ?_).mono ?_
 ·exact fun wb hb=>⟨h.grow hb,Z02 hs hb,by rw [hb.cell hxl];exact hx,Chg.refl _ _, .grow hb h.wf⟩
 ·rintro wb l w1 ⟨h1,_⟩
  exact⟨h1.c 0,h1.c 1⟩
 ·rintro wb l w1 ⟨h1,_,_,h4,h5⟩ c hc1 hc2
  exact h4.block c hc2 (by omega)
 ·rintro wb l k w1 ⟨h1,h2,h3,h4,h5⟩ hpre
  have hk:k ∈ Z16 s.id s.n T:=hpre.subset (by simp)
  have hk7:1≤k∧k≤7:=by
   unfold Z16 at hk
   exact Z5c hT (by rw [Z9u];simpa using (List.mem_filter.1 hk).1)
  obtain⟨i,rfl⟩:=Int.eq_ofNat_of_zero_le (show 0≤k by omega)
  refine (Zb1 own K a s out (l.any (silN s)) sb xb i w1 h1 h2 h3 (by omega) hc0 hc1 he).mono ?_
  rintro r w2 ⟨rfl,e1,e2⟩
  have t2:Turn (fun o=>o=j) own own w1 w2:=.same (e2.mono fun k _ e=>by rw [show k=sb from e];exact hob) h1.wf
  refine⟨rfl,h1.box hj t2,?_,?_,h4.more e2 fun i e=>.inl e,h5.trans t2⟩
  ·rw [e1,List.any_append]
   simp [silN]
  ·rw [World.cell?_of_block (w:=w1) (a:=⟨xb,0,none⟩) (e2.block xb (Z0f h3) (by omega))]
   exact h3
 ·rintro r w' ⟨rfl,wb,hb,h1,h2,h3,h4,h5⟩
  exact⟨rfl,h1,h2,h3,h5⟩
theorem NdO.askApp (h:NdO own K w a s out) {w1:World} (hb:Below w.heap.size w w1) {v:Value} (q:Int × Int × Int) (hown:w'.ownsRow 0 179 3 v (s.asked.length+1) (Z1h Z1i s.asked++Z1i.cells q)) (hg:w1.grownBy w' a.av.ownBlock)
  (hat:v.ownBlock=a.av.ownBlock∨v.ownBlock=some w1.heap.size) :
  ∃ own',NdO own' K (w'.setCell ⟨a.b,32,none⟩ v) { a with av:=v } { s with asked:=s.asked++[q] } out∧Turn (fun o=>o=K∨o=K+11) own own' w (w'.setCell ⟨a.b,32,none⟩ v):=by
 have h16:=h.r.k16
 obtain⟨hav,havk⟩:=h.r.ask
 have hob:=h.r.ob
 have hbl:=h.lt
 have hc1:Chg (fun c=>own c=K+11) w w':=Z10 (.of_below hb) hg fun k hk=>.inl (havk k hk)
 have hc2:Chg (fun c=>own c=K∨own c=K+11) w (w'.setCell ⟨a.b,32,none⟩ v):=Z06 (hc1.mono fun _ _ e=>.inr e) (.inl hob)
 have tn:=Turn.extJ (own:=own) (J:=fun o=>o=K∨o=K+11) (K+11) hc2
 have hb':=Z0g h.blk hc1 (by omega)
 refine⟨_,⟨?_,h.ears,h.r.putA tn ⟨?_,?_⟩⟩,tn⟩
 ·have e:=Z0d (o:=32) (u:=v) hb'
  rw [Z7a a s h.ears v] at e
  exact e
 ·have e:ownG Z1i w' 0 179 v (s.asked++[q]):=by
   unfold ownG
   rw [List.length_append,Z1u]
   exact hown
  refine e.same _ fun k hk=>Z0u rfl ?_
  rintro rfl
  rcases hat with h1 | h1
  ·have:=havk _ (h1 ▸ hk);omega
  ·rw [hk] at h1
   injection h1 with h1
   have:=hb.size
   omega
 ·intro k hk
  have hk6:=hown.lt k hk
  rcases hat with h1 | h1
  ·have h2:=havk k (h1 ▸ hk)
   have:k<w.heap.size:=Nat.lt_of_not_le fun hge=>by rw [h.wf k hge] at h2;omega
   rw [Z3k this];exact h2
  ·rw [hk] at h1
   injection h1 with h1
   have:=hb.size
   exact Z20 (by omega) (by rw [World.size_setCell];exact hk6.2)
end
end
section
open Go.RowKit
theorem Zje:(Tryz.prog.info? 179).map (fun i=>(i.zero,i.size,i.bytes))=some (some (.agg #[.int .i64 0, .int .i64 0, .int .i64 0]),3,24):=by kernel_rfl
theorem Zd5 (l:List Ent) (s:Nd) (k:Nat) (h:k<l.length):(l.take (k+1)).foldl Nd.add s=((l.take k).foldl Nd.add s).add l[k]:=by
 rw [List.take_succ_eq_append_getElem h,List.foldl_append];rfl
def Nd.decs (s:Nd):Nd:={ s with q:=s.q.map Qd.next,pf:=s.pf.ask s.clock,asked:=s.asked++[(s.id,s.pf.num+1,Zj6 s.q)] }
theorem Zga (s:Nd):s.decide_=if ((s.pend.foldl Nd.add s).others (s.pend.foldl Nd.add s).mem).any (silN (s.pend.foldl Nd.add s)) then (s.pend.foldl Nd.add s).propose else
  ((s.pend.foldl Nd.add s).decs,((s.pend.foldl Nd.add s).others (s.pend.foldl Nd.add s).mem).map ((s.pend.foldl Nd.add s).decs.dec2 (Zj6 (s.pend.foldl Nd.add s).q))):=rfl
section
variable {own:Nat→Nat} {K:Nat} {w:World} {a:NdAt} {s:Nd} {out:List MsS}
theorem Zd6 (c:Nat) (h:NdO own K w a s out) (hok:Okg c s) (hc:c<100000000) (hl:out.length≤100000) :
  Calls Tryz.prog 74 #[Z09 a.b] w fun r w'=>r=.returned (.tuple #[])∧Stp own K w a w' s.decide_.1 (out.map MsS.m++s.decide_.2):=by
 obtain⟨i0,hi,hz0,hz1,hz2⟩:=info_parts Zje
 replace hi:=hd_ hi
 have h16:=h.r.k16
 obtain⟨j,hj,hjf⟩:=Zb0 own w.heap.size K h.wf
 obtain⟨W0,hW0⟩:∃ W,W=w.alloc (.cells #[Z09 a.b] 30):=⟨_,rfl⟩
 have hB0:Below w.heap.size w W0:=hW0 ▸ (Below.refl _ _).alloc (Nat.le_refl _) _
 obtain⟨xb,hxb⟩:∃ xb,xb=w.heap.size:=⟨_,rfl⟩
 have hx0:W0.heap[xb]?=some (.cells #[Z09 a.b] 30 (0,0)):=hW0 ▸ hxb ▸ Z0a _ _
 have t0:Turn (fun _=>False) own (Z5q own w.heap.size W0.heap.size j) w W0:=Zd4 hB0
 obtain⟨own0,hown0⟩:∃ o,o=Z5q own w.heap.size W0.heap.size j:=⟨_,rfl⟩
 rw [← hown0] at t0
 have hxo:own0 xb=j:=by rw [hown0];exact Z20 (by omega) (Z04 hx0)
 have hN0:NdO own0 K W0 a s out:=h.box hj (t0.mono fun _ h=>h.elim)
 obtain⟨R,hR⟩:∃ R,R=s.decide_:=⟨_,rfl⟩
 rw [← hR]
 rw [Zga] at hR
 obtain⟨P,hP⟩:∃ P,P=s.pend:=⟨_,rfl⟩
 rw [← hP] at hR
 have hPl:P.length≤4:=by rw [hP];exact hok.pd
 have x0:W0.cell? ⟨xb,0,none⟩=some (Z09 a.b):=Z00 hx0 0
 have c13:W0.cell? ⟨a.b,13,none⟩=some (Z09 a.p):=hN0.c 13
 have la0:=hN0.lt
 have lx0:=Z04 hx0
 have hLst:=hd_ (Z8m a.p s.id s.boot s.pseq s.pend _ W0 hN0.r.pn (by have:=hok.pd;omega))
 rw [← hP] at hLst
 replace hR:=hd_ hR
 replace hP:=hd_ hP
 replace h:=hd_ h
 replace hok:=hd_ hok
 replace hN0:=hd_ hN0
 replace hx0:=hd_ hx0
 replace t0:=hd_ t0
 replace hown0:=hd_ hown0
 replace hB0:=hd_ hB0
 go_enter Tryz.func74,Tryz.ntmps74
 go_upto_region 1 with (fail)
 rw [← hW0,← hxb]
 replace hW0:=hd_ hW0
 replace hxb:=hd_ hxb
 go_wp2_with fail
 refine hLst.out.mono ?_
 rintro r w1 ⟨v1,rfl,ho1,hb1⟩
 have hN1:=hN0.out.grow hb1
 have hpe1:pubE own0 w1 v1 P:=pubE.new ho1 hN0.out.wf
 have hx1:=Z02 hx0.out hb1
 have t1:=Turn.grow (J:=JK K) hb1 hN0.out.wf
 obtain⟨ad,cp,rfl,hcl,hcM,_⟩:=hpe1.1
 unfold maxLen at hcM
 have hI0:Hid (∃ own',NdO own' K w1 a ((P.take 0).foldl Nd.add s) out∧Turn (JK K) own0 own' W0 w1∧pubE own' w1 (.slice ad P.length cp) P∧w1.heap[xb]?=some (.cells #[Z09 a.b] 30 (0,0))):=hd_ ⟨own0,hN1,t1,hpe1,hx1⟩
 clear hLst hN1 hpe1 hx1 t1 ho1 hb1 x0 c13 la0 lx0
 go_wp2
 go_loopw [12,3] (fun i _ wr=>∃ k:Nat,k≤P.length∧i=.int .i64 k∧Hid (∃ own',NdO own' K wr a ((P.take k).foldl Nd.add s) out∧Turn (JK K) own0 own' W0 wr∧pubE own' wr (.slice ad P.length cp) P∧wr.heap[xb]?=some (.cells #[Z09 a.b] 30 (0,0)))) (fun i _ _=>P.length-(intOf i).toNat)
 case atStart=>exact⟨0,Nat.zero_le _,rfl,hI0⟩
 case round=>
  obtain⟨k,hk,rfl,hI⟩:=hrel
  by_cases hlt:k<P.length
  ·obtain⟨own2,hN2,t2,hpe2,hx2⟩:=hI.out
   obtain⟨aa,cc,hoe,_,_,hca⟩:=hpe2.1
   injection hoe with z1 z2 z3
   subst z1 z3
   obtain⟨gb,off,rfl,hce⟩:=hca (by omega)
   have hck:=hce k hlt
   have hfo:=Zd5 P s k hlt
   obtain⟨x,hx⟩:∃ x,x=P[k]:=⟨_,rfl⟩
   rw [← hx] at hck hfo
   replace hx:=hd_ hx
   obtain⟨d0,d1,d2,d3,d4,d5,d6⟩:=hck
   have hok2:=Okg.adds (P.take k) hok.out
   obtain⟨s2,hs2⟩:∃ s2,s2=(P.take k).foldl Nd.add s:=⟨_,rfl⟩
   rw [← hs2] at hN2 hfo hok2
   obtain⟨W3,hW3⟩:∃ W,W=wr.alloc (.cells #[.int .i64 x.frm, .int .i64 x.boot, .int .i64 x.seq, .int .i64 x.ord, .int .i64 x.lev, .int .i64 x.stamp, .string x.data] 134):=⟨_,rfl⟩
   have hB3:Below wr.heap.size wr W3:=hW3 ▸ (Below.refl _ _).alloc (Nat.le_refl _) _
   obtain⟨nb,hnb⟩:∃ nb,nb=wr.heap.size:=⟨_,rfl⟩
   have hy3:W3.heap[nb]?=some (.cells #[.int .i64 x.frm, .int .i64 x.boot, .int .i64 x.seq, .int .i64 x.ord, .int .i64 x.lev, .int .i64 x.stamp, .string x.data] 134 (0,0)):=hW3 ▸ hnb ▸ Z0a _ _
   have hN3:=hN2.grow hB3
   have t3':=Turn.grow (J:=JK K) hB3 hN2.wf
   have t3:=t2.trans t3'
   have hpe3:=hpe2.turn t3' (jk0 h16)
   have hx3:=Z02 hx2 hB3
   have y0:=Z00 hy3 0
   have y1:=Z00 hy3 1
   have y2:=Z00 hy3 2
   have y3:=Z00 hy3 3
   have y4:=Z00 hy3 4
   have y5:=Z00 hy3 5
   have y6:=Z00 hy3 6
   simp only [List.getElem?_toArray,List.getElem?_cons_zero,List.getElem?_cons_succ] at y0 y1 y2 y3 y4 y5 y6
   have ly:=Z04 hy3
   have xc:W3.cell? ⟨xb,0,none⟩=some (Z09 a.b):=Z00 hx3 0
   have lx:=Z04 hx3
   have hAdd:=hd_ (Zej hN3 hok2.qdok hok2.lg x)
   have hxo2:own2 xb=j:=(t2.old xb (Z04 hx0.out)).trans hxo
   replace hN2:=hd_ hN2
   replace hN3:=hd_ hN3
   replace t2:=hd_ t2
   replace t3:=hd_ t3
   replace t3':=hd_ t3'
   replace hpe2:=hd_ hpe2
   replace hpe3:=hd_ hpe3
   replace hx2:=hd_ hx2
   replace hx3:=hd_ hx3
   replace hy3:=hd_ hy3
   replace hok2:=hd_ hok2
   replace hs2:=hd_ hs2
   replace hfo:=hd_ hfo
   replace hB3:=hd_ hB3
   replace hxo2:=hd_ hxo2
   clear hca hce
   go_upto_region 4 with (fail)
   rw [← hW3,← hnb]
   replace hW3:=hd_ hW3
   replace hnb:=hd_ hnb
   clear d0 d1 d2 d3 d4 d5 d6
   go_wp2_with fail
   refine hAdd.out.mono ?_
   rintro r w4 ⟨rfl,own4,hN4,t4⟩
   rw [← hfo.out] at hN4
   have hfin:Hid (∃ own',NdO own' K w4 a ((P.take (k+1)).foldl Nd.add s) out∧Turn (JK K) own0 own' W0 w4∧pubE own' w4 (.slice (some ⟨gb,off,none⟩) P.length cp) P∧w4.heap[xb]?=some (.cells #[Z09 a.b] 30 (0,0))):=hd_
    ⟨own4,hN4,t3.out.trans t4,hpe3.out.turn t4 (jk0 h16),t4.pub hx3.out (jkj hj hxo2.out h16)⟩
   clear y0 y1 y2 y3 y4 y5 y6 ly xc lx hAdd hN4 t4
   go_wp2
   go_roundw
   case rel=>exact⟨k+1,by omega,by go_num,hfin⟩
   case measure=>simp [intOf];omega
  ·obtain rfl:k=P.length:=by omega
   rw [List.take_length] at hI
   obtain⟨own2,hN2,t2,_,hx2⟩:=hI.out
   have hok2:=Okg.adds P hok.out
   obtain⟨s2,hs2⟩:∃ s2,s2=P.foldl Nd.add s:=⟨_,rfl⟩
   rw [← hs2] at hN2 hok2
   have hR2:=hR.out
   rw [← hs2] at hR2
   have hxo2:own2 xb=j:=(t2.old xb (Z04 hx0.out)).trans hxo
   -- the box of the silent
   obtain⟨W3,hW3⟩:∃ W,W=wr.alloc (.cells #[.bool false] 4):=⟨_,rfl⟩
   have hB3:Below wr.heap.size wr W3:=hW3 ▸ (Below.refl _ _).alloc (Nat.le_refl _) _
   obtain⟨sb,hsb⟩:∃ sb,sb=wr.heap.size:=⟨_,rfl⟩
   have hs3:W3.heap[sb]?=some (.cells #[.bool false] 4 (0,0)):=hW3 ▸ hsb ▸ Z0a _ _
   have t3':Turn (fun _=>False) own2 (Z5q own2 wr.heap.size W3.heap.size j) wr W3:=Zd4 hB3
   obtain⟨own3,hown3⟩:∃ o,o=Z5q own2 wr.heap.size W3.heap.size j:=⟨_,rfl⟩
   rw [← hown3] at t3'
   have hso:own3 sb=j:=by rw [hown3];exact Z20 (by omega) (Z04 hs3)
   have hN3:NdO own3 K W3 a s2 out:=hN2.box hj (t3'.mono fun _ h=>h.elim)
   have hx3:=Z02 hx2 hB3
   have hxo3:own3 xb=j:=(t3'.old xb (Z04 hx2)).trans hxo2
   have hne:xb≠sb:=by have:=Z04 hx2;omega
   have t3:Turn (fun o=>JK K o∨o=j) own0 own3 W0 W3:=(t2.mono fun o e=>.inl e).trans (t3'.mono fun _ h=>h.elim)
   replace hN2:=hd_ hN2
   replace hN3:=hd_ hN3
   replace t2:=hd_ t2
   replace t3:=hd_ t3
   replace hx2:=hd_ hx2
   replace hx3:=hd_ hx3
   replace hs3:=hd_ hs3
   replace hok2:=hd_ hok2
   replace hs2:=hd_ hs2
   replace hR2:=hd_ hR2
   replace hB3:=hd_ hB3
   replace hown3:=hd_ hown3
   clear t3'
   go_upto_region 7 with (fail)
   rw [← hW3,← hsb]
   replace hW3:=hd_ hW3
   replace hsb:=hd_ hsb
   refine Z05 (fun _=>False) (.q 0 (.q 1 (.q 2 (.q 3 (.q 4 (.l 5 (.cut (.l 6 .fin)))))))) (by kernel_rfl) (by kernel_rfl) ?_
   intro w4 hh4 hb4
   have hN4:=hN3.out.grow hb4
   have hx4:=Z02 hx3.out hb4
   have hs4:=Z02 hs3.out hb4
   have ux:=Z01 (F:=fun _=>False) (b:=w4) (fun h=>h) (show w4.cell? ⟨xb,0,none⟩=some (Z09 a.b) from Z00 hx4 0)
   have u12:=Z01 (F:=fun _=>False) (b:=w4) (fun h=>h) (show w4.cell? ⟨a.b,12,none⟩=some (.int .i64 s2.mem) from hN4.c 12)
   have t4:=hd_ (t3.out.trans ((Turn.grow (J:=fun o=>JK K o∨o=j) hb4 hN3.out.wf)))
   have hSl:=hd_ (Zg9 hN4 hj sb xb hso hs4 (Z00 hx4 0) hne s2.mem.toNat (by have:=hok2.out.m0;have:=hok2.out.m1;omega) hok2.out.c0 (by have:=hok2.out.c1;omega) hok2.out.er)
   have hTm:((s2.mem.toNat:Nat):Int)=s2.mem:=by have:=hok2.out.m0;omega
   rw [hTm] at hSl
   replace hTm:=hd_ hTm
   have hx4':=Z04 hx4
   replace hN4:=hd_ hN4
   replace hx4:=hd_ hx4
   replace hs4:=hd_ hs4
   replace hb4:=hd_ hb4
   clear hh4
   iterate 5 (refine Z0n rfl ?_;go_big_quiet_step (fail);refine wpQuiet_nil ?_)
   refine Z0j rfl (by kernel_rfl) ?_
   intro K1 hK
   go_simp
   refine hK _ _ (Chg.refl _ _) ?_
   clear hK K1
   refine Z0h Z1j ?_
   refine Z0j rfl (by kernel_rfl) ?_
   intro K1 hK
   go_simp
   refine hSl.out.mono ?_
   rintro r w5 ⟨rfl,hN5,hs5,hx5,t5'⟩
   refine hK _ _ (Z0l t5') ?_
   clear hK K1 ux u12 hSl
   refine Z0c ?_
   have t5:=hd_ (t4.out.trans (t5'.mono fun o e=>.inr e))
   obtain⟨g,hg⟩:∃ g,(Z16 s2.id s2.n s2.mem.toNat).any (silN s2)=g:=⟨_,rfl⟩
   rw [hg] at hs5
   have hR3:R=if g then s2.propose else (s2.decs,(s2.others s2.mem).map (s2.decs.dec2 (Zj6 s2.q))):=by rw [hR2.out,← hg];rfl
   replace hR3:=hd_ hR3
   replace hg:=hd_ hg
   have sc5:w5.cell? ⟨sb,0,none⟩=some (.bool g):=Z00 hs5 0
   have ls5:=Z04 hs5
   have lx5:=Z0f hx5
   replace hN5:=hd_ hN5
   replace hs5:=hd_ hs5
   clear t5' hx4'
   cases g
   case true=>
    have hR4:R=s2.propose:=by rw [hR3.out];rfl
    replace hR4:=hd_ hR4
    have hPr:=hd_ (Z43 c hN5.out hok2.out.toOk (by omega))
    go_wp2_with fail
    refine hPr.out.mono ?_
    rintro r w6 ⟨rfl,own6,a6,o6,hN6,ho6,e6,t6⟩
    have t7:=hd_ (Turn.loc hjf t0.out (t5.out.trans (t6.mono fun o e=>.inl e)))
    replace hN6:=hd_ hN6
    clear hPr t6 sc5 ls5
    go_wp2
    refine bodyPost_ret (results_none rfl _ _ _) rfl ?_
    rw [hR4.out]
    exact⟨rfl,own6,a6,o6,hN6.out,ho6,e6,t7.out⟩
   have hNx:=hd_ (ndQNext hN5.out hok2.out.qdok ⟨by have:=hok2.out.i1;omega,by have:=hok2.out.in_;have:=hok2.out.n7;omega⟩ (fun q hq=>by obtain⟨_,_,_,_,_,a6,_⟩:=hok2.out.qd q hq;omega))
   have c21:w5.cell? ⟨a.b,21,none⟩=some (Z3f a.qb):=hN5.out.c 21
   have la5:=hN5.out.lt
   obtain⟨pr,hpr⟩:∃ pr,pr=Zj6 s2.q:=⟨_,rfl⟩
   rw [← hpr] at hNx
   replace hpr:=hd_ hpr
   go_wp2_with fail
   refine hNx.out.mono ?_
   rintro r w6 ⟨rfl,hN6,t6⟩
   have hx6:w6.cell? ⟨xb,0,none⟩=some (Z09 a.b):=by
    rw [World.cell?_of_block (w:=w5) (a:=⟨xb,0,none⟩) (t6.chg.block xb lx5 (by rw [hxo3];omega))];exact hx5
   have lx6:=Z0f hx6
   obtain⟨W7,hW7⟩:∃ W,W=w6.alloc (.cells #[.int .i64 pr] 2):=⟨_,rfl⟩
   have hB7:Below w6.heap.size w6 W7:=hW7 ▸ (Below.refl _ _).alloc (Nat.le_refl _) _
   obtain⟨pb,hpb⟩:∃ pb,pb=w6.heap.size:=⟨_,rfl⟩
   have hp7:W7.heap[pb]?=some (.cells #[.int .i64 pr] 2 (0,0)):=hW7 ▸ hpb ▸ Z0a _ _
   have t7':Turn (fun _=>False) own3 (Z5q own3 w6.heap.size W7.heap.size j) w6 W7:=Zd4 hB7
   obtain⟨own7,hown7⟩:∃ o,o=Z5q own3 w6.heap.size W7.heap.size j:=⟨_,rfl⟩
   rw [← hown7] at t7'
   have hpo:own7 pb=j:=by rw [hown7];exact Z20 (by omega) (Z04 hp7)
   obtain⟨s6,hs6⟩:∃ s6:Nd,s6={ s2 with q:=s2.q.map Qd.next }:=⟨_,rfl⟩
   rw [← hs6] at hN6
   have hN7:NdO own7 K W7 a s6 out:=hN6.box hj (t7'.mono fun _ h=>h.elim)
   have hxo7:own7 xb=j:=(t7'.old xb lx6).trans hxo3
   have hx7:W7.cell? ⟨xb,0,none⟩=some (Z09 a.b):=by rw [hB7.cell lx6];exact hx6
   have t7:Turn (fun o=>JK K o∨o=j) own0 own7 W0 W7:=(t5.out.trans (t6.mono fun o e=>.inl (by unfold JK;omega))).trans (t7'.mono fun _ h=>h.elim)
   have lx7:=Z0f hx7
   have q60:0≤s6.pf.num∧s6.pf.num<4611686018427387904∧s6.pf.asked.length≤1000000∧s6.asked.length≤1000000000∧0≤s6.clock:=by
    have h1:=hok2.out.q0;have h2:=hok2.out.q1;have h3:=hok2.out.b3;have h4:=hok2.out.qa;have h5:=hok2.out.asl;have h6:=hok2.out.c0
    rw [hs6]
    exact⟨h1,by show s2.pf.num<_;omega,by show s2.pf.asked.length≤_;omega,by show s2.asked.length≤_;omega,h6⟩
   obtain⟨qa1,qa2,qa3,qa4,qa5⟩:=q60
   replace hN6:=hd_ hN6
   replace hN7:=hd_ hN7
   replace hs6:=hd_ hs6
   replace t7:=hd_ t7
   replace hp7:=hd_ hp7
   replace hB7:=hd_ hB7
   replace hown7:=hd_ hown7
   clear hNx c21 la5 t6 t7' sc5 ls5
   go_upto_region 11 with (fail)
   rw [← hW7,← hpb]
   replace hW7:=hd_ hW7
   replace hpb:=hd_ hpb
   clear hx6 lx6 hx5 lx5
   have hna:¬ (own7 a.b=K+7∨own7 a.b=K+11):=by have:=hN7.out.r.ob;omega
   have hnx:¬ (own7 xb=K+7∨own7 xb=K+11):=by omega
   have hnp:¬ (own7 pb=K+7∨own7 pb=K+11):=by omega
   refine Z05 (fun c=>own7 c=K+7∨own7 c=K+11) (.q 0 (.q 1 (.q 2 (.q 3 (.q 4 (.q 5 (.q 6 (.q 7 (.q 8 (.q 9 (.q 10 (.q 11 (.q 12 (.q 13 (.q 14 (.q 15 (.q 16 (.q 18 (.l 17 (.l 19 (.l 20 (.l 21 (.q 22 (.q 23 (.cut (.l 24 .fin)))))))))))))))))))))))))) (by kernel_rfl) (by kernel_rfl) ?_
   intro w8 hh8 hb8
   have hN8:=hN7.out.grow hb8
   have ux:=Z01 (F:=fun c=>own7 c=K+7∨own7 c=K+11) (b:=w8) hnx (show w8.cell? ⟨xb,0,none⟩=some (Z09 a.b) from by rw [hb8.cell lx7];exact hx7)
   have hp8:=Z02 hp7.out hb8
   have up:=Z01 (F:=fun c=>own7 c=K+7∨own7 c=K+11) (b:=w8) hnp (show w8.cell? ⟨pb,0,none⟩=some (.int .i64 pr) from Z00 hp8 0)
   have u0:=Z01 (F:=fun c=>own7 c=K+7∨own7 c=K+11) (b:=w8) hna (show w8.cell? ⟨a.b,0,none⟩=some (.int .i64 s6.id) from hN8.c 0)
   have u4:=Z01 (F:=fun c=>own7 c=K+7∨own7 c=K+11) (b:=w8) hna (show w8.cell? ⟨a.b,4,none⟩=some (.int .i64 s6.clock) from hN8.c 4)
   have u16:=Z01 (F:=fun c=>own7 c=K+7∨own7 c=K+11) (b:=w8) hna (show w8.cell? ⟨a.b,16,none⟩=some (Z09 a.f) from hN8.c 16)
   have u32:=Z01 (F:=fun c=>own7 c=K+7∨own7 c=K+11) (b:=w8) hna (show w8.cell? ⟨a.b,32,none⟩=some a.av from (hN8.c 32).trans (Z6f a s6 hN8.ears))
   have t8:=hd_ (t7.out.trans (Turn.grow (J:=fun o=>JK K o∨o=j) hb8 hN7.out.wf))
   have hx8:w8.cell? ⟨xb,0,none⟩=some (Z09 a.b):=by rw [hb8.cell lx7];exact hx7
   replace hx8:=hd_ hx8
   replace hN8:=hd_ hN8
   replace hp8:=hd_ hp8
   clear hh8 hx7
   replace hb8:=hd_ hb8
   iterate 18 (refine Z0n rfl ?_;go_big_quiet_step (fail);refine wpQuiet_nil ?_)
   clear ux up u0 u4 u16 u32
   refine Z0j rfl (by kernel_rfl) ?_
   intro K1 hK
   go_simp
   refine (Zja hN8.out s6.clock qa1 qa2 qa3).mono ?_
   rintro r w9 ⟨rfl,own9,hN9,t9⟩
   have hcl9:Chg (fun c=>own7 c=K+7∨own7 c=K+11) w8 w9:=t9.chg.mono fun _ _ e=>.inl e
   refine hK _ _ hcl9 ?_
   clear hK K1
   refine Z0j rfl (by kernel_rfl) ?_
   intro K1 hK
   go_simp
   refine hK _ _ hcl9 ?_
   clear hK K1
   refine Z0j rfl (by kernel_rfl) ?_
   intro K1 hK
   go_simp
   obtain⟨W10,hW10⟩:∃ W,W=w9.alloc (.cells #[.int .i64 s6.id, .int .i64 (s6.pf.num+1), .int .i64 pr] 179):=⟨_,rfl⟩
   have hB10:Below w9.heap.size w9 W10:=hW10 ▸ (Below.refl _ _).alloc (Nat.le_refl _) _
   obtain⟨nc,hnc⟩:∃ nc,nc=w9.heap.size:=⟨_,rfl⟩
   have hx10:W10.heap[nc]?=some (.cells #[.int .i64 s6.id, .int .i64 (s6.pf.num+1), .int .i64 pr] 179 (0,0)):=hW10 ▸ hnc ▸ Z0a _ _
   have hcl10:Chg (fun c=>own7 c=K+7∨own7 c=K+11) w8 W10:=hcl9.on hB10
   rw [← hW10,← hnc]
   replace hW10:=hd_ hW10
   replace hnc:=hd_ hnc
   refine hK _ _ hcl10 ?_
   clear hK K1
   have hask:=hN9.r.ask
   have hask10:ownG Z1i W10 0 179 a.av s6.asked:=hask.1.grow Z1i hB10
   have hi':=hi.out
   refine Z0j rfl (by kernel_rfl) ?_
   intro K1 hK
   refine Z6e _ (.tmp 39) (.tmp 55) 113 rfl 0 179 i0 (.agg #[.int .i64 0, .int .i64 0, .int .i64 0]) 3 24 Tryz.underlying113 hi' hz0 hz1 hz2 rfl (by decide) a.av s6.asked.length (Z1h Z1i s6.asked) rfl hask10 (.slice (some ⟨nc,0,none⟩) 1 1) 1 _ rfl (Z5y hx10 rfl) ?c1 (by unfold maxLen;omega) (by omega) (Nat.zero_le _) ?_
   case c1=>
    intro u hu
    simp only [List.mem_cons,List.not_mem_nil,or_false] at hu
    rcases hu with rfl | rfl | rfl<;>rfl
   intro v11 w11 hown11 hg11 hat11
   have hcl11:Chg (fun c=>own7 c=K+7∨own7 c=K+11) w8 w11:=Z10 hcl10 hg11 fun q hq=>by
    have e1:=hask.2 q hq
    rcases Nat.lt_or_ge q w8.heap.size with h1 | h1
    ·rw [t9.old q h1] at e1;exact .inl (.inr e1)
    ·exact .inr h1
   obtain⟨ad11,cp11,rfl⟩:∃ ad c,v11=.slice ad (s6.asked.length+1) c:=by
    rcases hown11.2 with ⟨h,h0⟩ | ⟨g,cap,cur,h,_⟩
    ·omega
    ·exact⟨_,_,h⟩
   obtain⟨own12,hN12,t12⟩:=hN9.askApp hB10 (s6.id,s6.pf.num+1,pr) hown11 hg11 hat11
   have hb11:w11.heap[a.b]?=some (.cells (ndC a s6) 115 (0,0)):=Z0g hN8.out.blk hcl11 hna
   have q32:w11.cell? ⟨a.b,32,none⟩=some a.av:=(Z00 hb11 32).trans (Z6f a s6 hN8.out.ears)
   have z32:=Z03 hb11 32
   have l32:=Z04 hb11
   obtain⟨W12,hW12⟩:∃ W12,W12=w11.setCell ⟨a.b,32,none⟩ (.slice ad11 (s6.asked.length+1) cp11):=⟨_,rfl⟩
   rw [← hW12] at hN12 t12
   obtain⟨s12,hs12⟩:∃ s12:Nd,s12={ s6 with pf:=s6.pf.ask s6.clock,asked:=s6.asked++[(s6.id,s6.pf.num+1,pr)] }:=⟨_,rfl⟩
   have hN12':NdO own12 K W12 { a with av:=.slice ad11 (s6.asked.length+1) cp11 } s12 out:=by rw [hs12];exact hN12
   have hxo9:own9 xb=j:=(t9.old xb (Nat.lt_of_lt_of_le lx7 hb8.out.size)).trans hxo7
   have hpo9:own9 pb=j:=(t9.old pb (Z04 hp8.out)).trans hpo
   have hx9:w9.cell? ⟨xb,0,none⟩=some (Z09 a.b):=by
    rw [World.cell?_of_block (w:=w8) (a:=⟨xb,0,none⟩) (t9.chg.block xb (Z0f hx8.out) (by rw [hxo7];omega))];exact hx8.out
   have hp9:=Z0g hp8.out t9.chg (by rw [hpo];omega)
   have hx12:W12.cell? ⟨xb,0,none⟩=some (Z09 a.b):=by
    rw [World.cell?_of_block (w:=w9) (a:=⟨xb,0,none⟩) (t12.chg.block xb (Z0f hx9) (by rw [hxo9];omega))];exact hx9
   have hp12:=Z0g hp9 t12.chg (by rw [hpo9];omega)
   have hxo12:own12 xb=j:=(t12.old xb (Z0f hx9)).trans hxo9
   have hpo12:own12 pb=j:=(t12.old pb (Z04 hp9)).trans hpo9
   have t13:Turn (fun o=>JK K o∨o=j) own0 own12 W0 W12:=(t8.out.trans (t9.mono fun o e=>.inl (by unfold JK;omega))).trans (t12.mono fun o e=>.inl (by unfold JK;omega))
   replace hN12':=hd_ hN12'
   replace t13:=hd_ t13
   replace hb11:=hd_ hb11
   replace hx12:=hd_ hx12
   replace hp12:=hd_ hp12
   replace hs12:=hd_ hs12
   have hvv:∃ ad c,a.av=.slice ad s6.asked.length c:=(hask.1.rd Z1i).len
   obtain⟨ada,cpa,hvv⟩:=hvv
   rw [hvv] at q32
   replace hvv:=hd_ hvv
   clear hN9 t9 hask hask10 hN12 t12 hx10 hx9 hp9 hat11 hown11 hg11 hi' hcl9 hcl10
   go_simp
   refine hK _ _ hcl11 ?_
   clear hK K1 hcl11
   iterate 2 (refine Z0n rfl ?_;go_big_quiet_step (fail);refine wpQuiet_nil ?_)
   refine Z0h Z1j ?_
   refine Z0j rfl (by kernel_rfl) ?_
   intro K1 hK
   go_simp
   refine hK _ _ (Z06 (Chg.refl _ _) trivial) ?_
   clear hK K1
   refine Z0c ?_
   rw [← hW12]
   replace hW12:=hd_ hW12
   clear q32 z32 l32
   have hdecs:s12=s2.decs:=by rw [hs12.out,hs6.out,hpr.out];rfl
   have hR4:R=(s12,(Z16 s12.id s12.n s12.mem.toNat).map (s12.dec2 pr)):=by rw [hR3.out,hdecs,hpr.out];rfl
   have hq12:∀ k,0≤Z9i s12.q k:=fun k=>by
    rw [hs12.out,hs6.out]
    show 0≤Z9i (s2.q.map Qd.next) k
    cases hq:s2.q with
    | none=>exact Int.le_refl _
    | some q=>
      obtain⟨_,_,_,_,_,_,a7⟩:=hok2.out.qd q hq
      show 0≤(q.next).have_ k
      unfold Qd.have_ Qd.next
      dsimp only
      split
      ·exact (Z9j (P:=fun x=>0≤x∧x≤60) a7 (by omega) _).1
      ·exact Int.le_refl _
   have hqd12:Zd3 s12:=fun q e=>by
    rw [hs12.out,hs6.out] at e ⊢
    have e:s2.q.map Qd.next=some q:=e
    cases hq:s2.q with
    | none=>rw [hq] at e;cases e
    | some q0=>
      rw [hq] at e
      injection e with e
      obtain⟨a1,a2,a3,a4,a5,a6,a7⟩:=hok2.out.qd q0 hq
      rw [← e]
      exact⟨a1,a2,a3,a4,by show 0≤q0.last+1;omega⟩
   have h60:s12.L.length≤60:=by rw [hs12.out,hs6.out];exact hok2.out.lg
   have hac:0≤s12.acked∧s12.acked<128:=by rw [hs12.out,hs6.out];exact⟨hok2.out.a0,hok2.out.a1⟩
   have hmm:0≤s12.mem∧s12.mem<128:=by rw [hs12.out,hs6.out];exact⟨hok2.out.m0,hok2.out.m1⟩
   replace hR4:=hd_ hR4
   replace hq12:=hd_ hq12
   replace hqd12:=hd_ hqd12
   clear hdecs
   go_upto_region 12 with (fail)
   refine Z05 (fun _=>False) (.q 0 (.q 1 (.q 2 (.q 3 (.q 4 (.l 5 (.cut (.l 6 .fin)))))))) (by kernel_rfl) (by kernel_rfl) ?_
   intro w14 hh14 hb14
   have hN14:=hN12'.out.grow hb14
   have hx14:w14.cell? ⟨xb,0,none⟩=some (Z09 a.b):=by rw [hb14.cell (Z0f hx12.out)];exact hx12.out
   have hp14:=Z02 hp12.out hb14
   have ux:=Z01 (F:=fun _=>False) (b:=w14) (fun h=>h) hx14
   have u12:=Z01 (F:=fun _=>False) (b:=w14) (fun h=>h) (show w14.cell? ⟨a.b,12,none⟩=some (.int .i64 s12.mem) from hN14.c 12)
   have t14:=hd_ (t13.out.trans (Turn.grow (J:=fun o=>JK K o∨o=j) hb14 hN12'.out.wf))
   have hO:=Z61 hN14 s12.mem.toNat (by omega) 134 #[] #[.pointer (some ⟨xb,0,none⟩), .pointer (some ⟨pb,0,none⟩)] (Zam Tryz.func134 (by kernel_rfl) (by kernel_rfl)) (s12.dec2 pr)
    (fun own1 a1 out1 w1 k h1 e1 t1 hlen hk=>Zb2 h1 a.b e1.b hqd12.out h60 hac (by omega) k (hq12.out k) pr xb pb
     (by rw [World.cell?_of_block (w:=w14) (a:=⟨xb,0,none⟩) (t1.chg.block xb (Z0f hx14) (jkj hj hxo12 h16))];exact hx14)
     (by rw [World.cell?_of_block (w:=w14) (a:=⟨pb,0,none⟩) (t1.chg.block pb (Z04 hp14) (jkj hj hpo12 h16))];exact Z00 hp14 0))
   have hTm2:((s12.mem.toNat:Nat):Int)=s12.mem:=by omega
   rw [hTm2] at hO
   replace hTm2:=hd_ hTm2
   have lx14:=Z0f hx14
   replace hO:=hd_ hO
   replace hN14:=hd_ hN14
   replace hp14:=hd_ hp14
   replace hb14:=hd_ hb14
   clear hh14 hx14
   iterate 5 (refine Z0n rfl ?_;go_big_quiet_step (fail);refine wpQuiet_nil ?_)
   refine Z0j rfl (by kernel_rfl) ?_
   intro K1 hK
   go_simp
   refine hK _ _ (Chg.refl _ _) ?_
   clear hK K1
   refine Z0h Z1j ?_
   refine Z0j rfl (by kernel_rfl) ?_
   intro K1 hK
   go_simp
   refine hO.out.mono ?_
   rintro r w15 ⟨rfl,own15,a15,o15,hN15,ho15,e15,t15⟩
   refine hK _ _ (Z0l t15) ?_
   clear hK K1 ux u12 hO
   refine Z0c ?_
   have t16:=hd_ (Turn.loc hjf t0.out (t14.out.trans (t15.mono fun o e=>.inl e)))
   replace hN15:=hd_ hN15
   clear t15
   go_wp2
   go_end0
   rw [hR4.out]
   exact⟨rfl,own15,a15,o15,hN15.out,ho15,⟨e15.b,e15.dk,e15.od,e15.cs,e15.T⟩,t16.out⟩
end
end
section
open Go.RowKit
def TellP:(Nat→Nat)→World→Nd→Prop:=fun own w s=>M0 own w∧Tell s
theorem Zen:SetOk TellP:=fun own K w a s out h hp=>Zd1 h hp.1 hp.2
section
variable {own:Nat→Nat} {K:Nat} {w:World} {a:NdAt} {s:Nd}
theorem Zb3 (c:Nat) (h:NdO own K w a s []) (hm:M0 own w) (hok:Okg c s) (hc:c<500000) (hj:s.knows=false→s.v=none) :
  Calls Tryz.prog 23 #[Z09 a.b] w fun r w'=>∃ v,r=.returned v∧Zfx own K w a w' s.tick.1 s.tick.2 v:=by
 have h16:=h.r.k16
 refine xTick_of Zen c h hok.toOk (by omega) hj (fun own1 w1 t=>⟨hm.turn h16 t,(hok.clk.tick0 (by omega)).tell (by omega)⟩) (fun hd own1 w1 hN=>?_) (fun hd own1 w1 hN=>?_)
 ·have:=Zd6 (c+1) hN hok.clk (by omega) (by simp)
  simpa using this
 ·have:=xAsk_any (c+1) hN hok.clk.toOk (by omega) (by have:=hok.pd;show s.pend.length≤1000;omega) (by simp)
  simpa using this
end
end
end Go.Proofs.YtbonjbokofkafaaGreat
