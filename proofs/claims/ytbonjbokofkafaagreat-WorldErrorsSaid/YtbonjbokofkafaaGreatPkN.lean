/- Lemmas of the proof: PkN. -/
import Derived.Test.YtbonjbokofkafaaGreatPkK
import Derived.Test.YtbonjbokofkafaaGreatPkB
namespace Go.Proofs.YtbonjbokofkafaaGreat
set_option linter.unusedVariables false
set_option maxRecDepth 100000
set_option maxHeartbeats 64000000
section
open Go.RowKit
theorem Zef (w:World) (b o o':Nat) (u v:Value) (h:o≠o'):(w.setCell ⟨b,o,none⟩ u).setCell ⟨b,o',none⟩ v=(w.setCell ⟨b,o',none⟩ v).setCell ⟨b,o,none⟩ u:=by
 unfold World.setCell
 simp only
 congr 1
 apply Array.ext
 ·simp
 ·intro i h1 h2
  simp only [Array.getElem_modify]
  by_cases hi:b=i
  ·subst hi
   simp only [if_true]
   have hx:b<w.heap.size:=by simpa using h1
   generalize w.heap[b]=x
   cases x<;>simp [Array.setIfInBounds_comm _ _ h]
  ·simp [hi]
section
variable {own:Nat→Nat} {K:Nat} {w:World} {a:NdAt} {s:Nd} {out:List MsS}
theorem Zfz (h:NdO own K w a s out) (u:Int) :
  Calls Tryz.prog 137 #[.pointer (some ⟨a.dk,a.od,none⟩), .int .i64 u] w fun r w'=>(∃ b,r=.returned (.bool b))∧NdO own K w' a { s with dv:=if s.dv<u∧u≤1099511627776 then u else s.dv } out∧Turn (fun o=>o=K∨o=1) own own w w':=by
 by_cases hg:s.dv<u∧u≤1099511627776
 ·rw [if_pos hg]
  refine (Z7c h u hg.1 hg.2).mono ?_
  rintro r w' ⟨rfl,h1,h2⟩
  exact⟨⟨_,rfl⟩,h1,h2⟩
 ·rw [if_neg hg]
  refine (Z7b a.dk a.od s.dv u w h.dv (by omega)).mono ?_
  rintro r w' ⟨rfl,rfl⟩
  exact⟨⟨_,rfl⟩,h, .same (Chg.refl _ _) h.wf⟩
theorem Zat (h:NdO own K w a s out) (hcom0:0≤s.com) (hcom1:s.com≤(s.L.length:Int)) (hcom2:s.L.length≤60) (m:Ms) (sa:Option Addr) (sc:Nat) (hp:pubE own w (.slice sa m.ents.length sc) m.ents) (hc0:0≤m.com) (hc1:m.com≤1000) (hv1:I64 m.view) :
  Calls Tryz.prog 163 #[Z09 a.b,Z0w m (.slice sa m.ents.length sc)] w fun r w'=>r=.returned (.tuple #[])∧Stp own K w a w' (s.take m) (out.map MsS.m):=by
 obtain⟨k,f,t,b,vi,la,me,po,es,co,nu,cl,y⟩:=m
 dsimp only at *
 obtain⟨W0,hW0⟩:∃ W,W=w.alloc (.cells #[.int .i64 k, .int .i64 f, .int .i64 t, .int .i64 b, .int .i64 vi, .int .i64 la, .int .i64 me, .int .i64 po, .slice sa es.length sc, .int .i64 co, .int .i64 nu, .int .i64 cl, .bool y] 37):=⟨_,rfl⟩
 have hB0:Below w.heap.size w W0:=hW0 ▸ (Below.refl _ _).alloc (Nat.le_refl _) _
 obtain⟨mb,hmb⟩:∃ mb,mb=w.heap.size:=⟨_,rfl⟩
 have hm0:W0.heap[mb]?=some (.cells #[.int .i64 k, .int .i64 f, .int .i64 t, .int .i64 b, .int .i64 vi, .int .i64 la, .int .i64 me, .int .i64 po, .slice sa es.length sc, .int .i64 co, .int .i64 nu, .int .i64 cl, .bool y] 37 (0,0)):=hW0 ▸ hmb ▸ Z0a _ _
 have hN0:=h.grow hB0
 have hmo:own mb=0:=h.wf mb (by omega)
 have t0:=hd_ (Turn.grow (J:=JK K) (own:=own) hB0 h.wf)
 obtain⟨hv1,hv2⟩:=hv1
 have h16:=h.r.k16
 have hp0:=hd_ (hp.turn (Turn.grow (J:=JK K) (own:=own) hB0 h.wf) (jk0 h16))
 obtain⟨L,hL⟩:∃ L,L=Z2y es:=⟨_,rfl⟩
 have hLl:=Z2d es
 rw [← hL] at hLl
 obtain⟨nc,hnc⟩:∃ nc,nc=min (max s.com co) (L.length:Int):=⟨_,rfl⟩
 obtain⟨D,hD⟩:∃ D,D=if s.dv<vi∧vi≤1099511627776 then vi else s.dv:=⟨_,rfl⟩
 obtain⟨R,hR⟩:∃ R,s.take ⟨k,f,t,b,vi,la,me,po,es,co,nu,cl,y⟩=R:=⟨_,rfl⟩
 have hRe:R={ s with dv:=D,last:=vi,mem:=me,L:=L,com:=nc,heard:=s.clock }:=by rw [← hR,hD,hnc,hL];rfl
 rw [hR]
 replace hRe:=hd_ hRe
 replace hL:=hd_ hL
 replace hD:=hd_ hD
 replace hN0:=hd_ hN0
 replace hm0:=hd_ hm0
 clear hB0 hR hp
 go_enter Tryz.func163,Tryz.ntmps163
 go_upto_region 1 with (fail)
 rw [← hW0,← hmb]
 replace hW0:=hd_ hW0
 replace hmb:=hd_ hmb
 replace h:=hd_ h
 refine Z05 (fun _=>False) (.q 0 (.q 1 (.q 2 (.q 3 (.q 4 (.q 5 (.cut (.l 6 .fin)))))))) (by kernel_rfl) (by kernel_rfl) ?_
 intro w1 hhw1 hbw1
 have hNw1:=hN0.out.grow hbw1
 have u2:=Z01 (F:=fun _=>False) (b:=w1) (fun h=>h) (show w1.cell? ⟨a.b,2,none⟩=some (.pointer (some ⟨a.dk,a.od,none⟩)) from hNw1.c 2)
 have hlw1:=hNw1.lt
 have hm1:=Z02 hm0.out hbw1
 have k4:=Z01 (F:=fun _=>False) (b:=w1) (fun h=>h) (show w1.cell? ⟨mb,4,none⟩=some (.int .i64 vi) from Z00 hm1 4)
 have hlm:=Z04 hm1
 have t1':=Turn.grow (J:=JK K) hbw1 hN0.out.wf
 have hp1:=hd_ (hp0.out.turn t1' (jk0 h16))
 have t1:=hd_ (t0.out.trans t1')
 clear t1'
 replace hm1:=hd_ hm1
 replace hNw1:=hd_ hNw1
 clear hhw1
 replace hbw1:=hd_ hbw1
 iterate 6 (refine Z0n rfl ?_;go_big_quiet_step (fail);refine wpQuiet_nil ?_)
 refine Z0h Z1j ?_
 refine Z0j rfl (by kernel_rfl) ?_
 intro K1 hK
 go_simp
 refine (Zfz hNw1.out vi).mono ?_
 rintro r w2 ⟨⟨bb,rfl⟩,hN2,t2⟩
 rw [← hD.out] at hN2
 refine hK _ _ (Z0l t2) ?_
 clear hK K1
 refine Z0c ?_
 have t2':=t2.mono (J':=JK K) fun o e=>by unfold JK;omega
 have hm2:=hd_ (t2'.pub hm1.out (by rw [hmo];exact jk0 h16))
 have hp2:=hd_ (hp1.out.turn t2' (jk0 h16))
 have hT2:=hd_ (t1.out.trans t2')
 replace hN2:=hd_ hN2
 clear t2 t2' u2 k4 hlm hlw1
 go_upto_region 2 with (fail)
 refine Z0y (Zf6 a.b [11,12,9]) (.q 0 (.q 1 (.q 2 (.q 3 (.q 4 (.q 5 (.q 6 (.q 7 (.q 8 (.l 9 (.q 10 (.q 11 (.l 12 (.q 13 (.q 14 (.l 15 (.q 16 (.q 17 (.l 18 .fin))))))))))))))))))) (by kernel_rfl) (by kernel_rfl) ?_
 intro w3 hh3 hb3
 have hN3:=hN2.out.grow hb3
 have hm3:=Z02 hm2.out hb3
 have hma:mb≠a.b:=by have:=h.out.lt;have:=hmb.out;omega
 have k4:=Z1d (F:=Zf6 a.b [11,12,9]) (b:=w3) (g:=mb) (o:=4) (fun h=>hma h.1) (show w3.cell? ⟨mb,4,none⟩=some (.int .i64 vi) from Z00 hm3 4)
 have k6:=Z1d (F:=Zf6 a.b [11,12,9]) (b:=w3) (g:=mb) (o:=6) (fun h=>hma h.1) (show w3.cell? ⟨mb,6,none⟩=some (.int .i64 me) from Z00 hm3 6)
 have k8:=Z1d (F:=Zf6 a.b [11,12,9]) (b:=w3) (g:=mb) (o:=8) (fun h=>hma h.1) (show w3.cell? ⟨mb,8,none⟩=some (.slice sa es.length sc) from Z00 hm3 8)
 have t3':=Turn.grow (J:=JK K) hb3 hN2.out.wf
 have hp3:=hd_ (hp2.out.turn t3' (jk0 h16))
 have hT3:=hd_ (hT2.out.trans t3')
 have hla3:=hN3.lt
 have hlm:=Z04 hm3
 replace hN3:=hd_ hN3
 replace hm3:=hd_ hm3
 clear t3' hh3 hb3
 iterate 9 (refine Z6l rfl ?_;go_big_quiet_step (fail);refine wpQuiet_nil ?_)
 refine Z4j rfl (by kernel_rfl) ?_
 intro K1 hK
 go_simp
 refine (Z1e _ es _ hp3.out.1).mono ?_
 rintro r w5 ⟨lb,rfl,hlb,hlg5,hb5⟩
 rw [← hL.out] at hlg5
 have hN5:=hN3.out.grow hb5
 have hla5:=hN5.lt
 have q11:w5.cell? ⟨a.b,11,none⟩=some (.int .i64 s.last):=hN5.c 11
 have q12:w5.cell? ⟨a.b,12,none⟩=some (.int .i64 s.mem):=hN5.c 12
 have q9:w5.cell? ⟨a.b,9,none⟩=some (Z09 a.l):=hN5.c 9
 have z11:=hN5.free 11
 have z12:=hN5.free 12
 have z9:=hN5.free 9
 obtain⟨own6,hN6,t6⟩:=hN3.out.newL hb5 hlg5
 obtain⟨hA,tA⟩:=hN6.s11 vi
 obtain⟨hB,tB⟩:=hA.s12 me
 have hX:(((w5.setCell ⟨a.b,9,none⟩ (Z09 lb)).setCell ⟨a.b,11,none⟩ (.int .i64 vi)).setCell ⟨a.b,12,none⟩ (.int .i64 me))=(((w5.setCell ⟨a.b,11,none⟩ (.int .i64 vi)).setCell ⟨a.b,12,none⟩ (.int .i64 me)).setCell ⟨a.b,9,none⟩ (Z09 lb)):=by
  rw [Zef w5 a.b 9 11 _ _ (by omega),Zef _ a.b 9 12 _ _ (by omega)]
 have t7:=t6.trans ((tA.mono jkK).trans (tB.mono jkK))
 have hB':=hB
 have t7':=t7
 rw [hX] at hB t7
 have hm7:=hd_ (t7.pub hm3.out (by rw [hmo];exact jk0 h16))
 have hT7:=hd_ (hT3.out.trans t7)
 replace hB:=hd_ hB
 clear hA hB' tA tB t6 t7 t7' hN6 hX hN5
 refine hK _ _ ((ChgC.refl _ _).on hb5) ?_
 clear hK K1
 iterate 2 (refine Z6l rfl ?_;go_big_quiet_step (fail);refine wpQuiet_nil ?_)
 refine Z4j rfl (by kernel_rfl) ?_
 intro K1 hK
 go_simp
 refine hK _ _ (((ChgC.refl _ _).on hb5).set ⟨rfl,by simp⟩) ?_
 clear hK K1
 iterate 2 (refine Z6l rfl ?_;go_big_quiet_step (fail);refine wpQuiet_nil ?_)
 refine Z4j rfl (by kernel_rfl) ?_
 intro K1 hK
 go_simp
 refine hK _ _ ((((ChgC.refl _ _).on hb5).set ⟨rfl,by simp⟩).set ⟨rfl,by simp⟩) ?_
 clear hK K1
 iterate 2 (refine Z6l rfl ?_;go_big_quiet_step (fail);refine wpQuiet_nil ?_)
 refine Z4j rfl (by kernel_rfl) ?_
 intro K1 hK
 go_simp
 refine hK _ _ (((((ChgC.refl _ _).on hb5).set ⟨rfl,by simp⟩).set ⟨rfl,by simp⟩).set ⟨rfl,by simp⟩) ?_
 clear hK K1
 refine Z0c ?_
 obtain⟨W7,hW7⟩:∃ W7,W7=(((w5.setCell ⟨a.b,11,none⟩ (.int .i64 vi)).setCell ⟨a.b,12,none⟩ (.int .i64 me)).setCell ⟨a.b,9,none⟩ (Z09 lb)):=⟨_,rfl⟩
 rw [← hW7] at hB hm7 hT7 ⊢
 replace hW7:=hd_ hW7
 clear k4 k6 k8 hlm hla3 hla5 q11 q12 q9 z11 z12 z9 hlg5
 replace hb5:=hd_ hb5
 go_upto_region 3 with (fail)
 refine Z05 (fun _=>False) (.q 0 (.q 1 (.q 2 (.q 3 (.q 4 (.q 5 (.q 6 (.q 7 (.q 8 (.q 9 (.q 10 (.q 11 (.l 12 (.q 13 (.q 14 (.q 15 (.cut (.l 16 .fin)))))))))))))))))) (by kernel_rfl) (by kernel_rfl) ?_
 intro w8 hhw8 hbw8
 have hNw8:=hB.out.grow hbw8
 have u10:=Z01 (F:=fun _=>False) (b:=w8) (fun h=>h) (show w8.cell? ⟨a.b,10,none⟩=some (.int .i64 s.com) from hNw8.c 10)
 have hlw8:=hNw8.lt
 have u9:=Z01 (F:=fun _=>False) (b:=w8) (fun h=>h) (show w8.cell? ⟨a.b,9,none⟩=some (Z09 lb) from hNw8.c 9)
 have hm8:=Z02 hm7.out hbw8
 have k9:=Z01 (F:=fun _=>False) (b:=w8) (fun h=>h) (show w8.cell? ⟨mb,9,none⟩=some (.int .i64 co) from Z00 hm8 9)
 have hlm:=Z04 hm8
 have q10:w8.cell? ⟨a.b,10,none⟩=some (.int .i64 s.com):=hNw8.c 10
 have z10:=hNw8.free 10
 have hT8:=hd_ (hT7.out.trans (Turn.grow (J:=JK K) hbw8 hB.out.wf))
 clear hm8
 replace hNw8:=hd_ hNw8
 clear hhw8
 replace hbw8:=hd_ hbw8
 iterate 12 (refine Z0n rfl ?_;go_big_quiet_step (fail);refine wpQuiet_nil ?_)
 refine Z0j rfl (by kernel_rfl) ?_
 intro K1 hK
 go_simp
 refine (Z0m lb L _ hNw8.out.r.lg.rd).mono ?_
 rintro r wx ⟨rfl,rfl⟩
 refine hK _ _ (Chg.refl _ _) ?_
 clear hK K1
 iterate 3 (refine Z0n rfl ?_;go_big_quiet_step (fail);refine wpQuiet_nil ?_)
 refine Z0h Z1j ?_
 refine Z0j rfl (by kernel_rfl) ?_
 intro K1 hK
 go_simp
 rw [← hnc]
 obtain⟨hN9,t9⟩:=hNw8.out.s10 nc
 refine hK _ _ (Z06 (Chg.refl _ _) trivial) ?_
 clear hK K1
 refine Z0c ?_
 have hT9:=hd_ (hT8.out.trans (t9.mono jkK))
 obtain⟨W9,hW9⟩:∃ W9,W9=w8.setCell ⟨a.b,10,none⟩ (.int .i64 nc):=⟨_,rfl⟩
 rw [← hW9] at hN9 hT9 ⊢
 replace hW9:=hd_ hW9
 replace hnc:=hd_ hnc
 clear t9 u9 u10 k9 hlm q10 z10 hlw8
 have q4:W9.cell? ⟨a.b,4,none⟩=some (.int .i64 s.clock):=hN9.c 4
 have q5:W9.cell? ⟨a.b,5,none⟩=some (.int .i64 s.heard):=hN9.c 5
 have z5:=hN9.free 5
 have hla9:=hN9.lt
 obtain⟨hN10,t10⟩:=hN9.s5 s.clock
 have hT10:=hd_ (hT9.out.trans (t10.mono jkK))
 replace hN10:=hd_ hN10
 clear hN9 t10
 go_wp2
 go_end0
 rw [hRe.out]
 exact⟨rfl,own6,{ a with l:=lb },out,hN10.out,rfl,⟨rfl,rfl,rfl,rfl,rfl⟩,hT10.out⟩
end
end
section
open Go.RowKit
section
variable {own:Nat→Nat} {K:Nat} {w:World} {a:NdAt} {s:Nd} {out:List MsS}
theorem Zg0 (c:Nat) (h:NdO own K w a s out) (hok:Ok c s) (m:Ms) (sa:Option Addr) (sc:Nat) (hp:rdE w (.slice sa m.ents.length sc) m.ents) (hl:m.ents.length≤1000) (hm:0≤m.mem∧m.mem<128) (hv1:I64 m.view) :
  Calls Tryz.prog 202 #[Z09 a.b,Z0w m (.slice sa m.ents.length sc)] w fun r w'=>r=.returned (.bool (s.right m))∧Below w.heap.size w w':=by
 obtain⟨k,f,t,b,vi,la,me,po,es,co,nu,cl,y⟩:=m
 dsimp only at *
 obtain⟨W0,hW0⟩:∃ W,W=w.alloc (.cells #[.int .i64 k, .int .i64 f, .int .i64 t, .int .i64 b, .int .i64 vi, .int .i64 la, .int .i64 me, .int .i64 po, .slice sa es.length sc, .int .i64 co, .int .i64 nu, .int .i64 cl, .bool y] 37):=⟨_,rfl⟩
 have hB0:Below w.heap.size w W0:=hW0 ▸ (Below.refl _ _).alloc (Nat.le_refl _) _
 obtain⟨mb,hmb⟩:∃ mb,mb=w.heap.size:=⟨_,rfl⟩
 have hm0:W0.heap[mb]?=some (.cells #[.int .i64 k, .int .i64 f, .int .i64 t, .int .i64 b, .int .i64 vi, .int .i64 la, .int .i64 me, .int .i64 po, .slice sa es.length sc, .int .i64 co, .int .i64 nu, .int .i64 cl, .bool y] 37 (0,0)):=hW0 ▸ hmb ▸ Z0a _ _
 have hN0:=h.grow hB0
 have hmo:own mb=0:=h.wf mb (by omega)
 have t0:=hd_ (Turn.grow (J:=JK K) (own:=own) hB0 h.wf)
 obtain⟨hv1,hv2⟩:=hv1
 have hp0:=hd_ (hp.grow hB0)
 obtain⟨LL,hLL⟩:∃ LL,LL=(Z2y es).length:=⟨_,rfl⟩
 have hLl:=Z2d es
 obtain⟨c1,h1⟩:∃ c1,(f==Z1y vi s.n)=c1:=⟨_,rfl⟩
 obtain⟨c2,h2⟩:∃ c2,Z2x me s.n=c2:=⟨_,rfl⟩
 obtain⟨c3,h3⟩:∃ c3,Z18 me.toNat f=c3:=⟨_,rfl⟩
 obtain⟨c4,h4⟩:∃ c4,Z18 me.toNat s.id=c4:=⟨_,rfl⟩
 obtain⟨c5,h5⟩:∃ c5,(((Z2y es).length:Int)==(es.length:Int))=c5:=⟨_,rfl⟩
 obtain⟨c6,h6⟩:∃ c6,decide (co≤(es.length:Int))=c6:=⟨_,rfl⟩
 obtain⟨R,hR⟩:∃ R,s.right ⟨k,f,t,b,vi,la,me,po,es,co,nu,cl,y⟩=R:=⟨_,rfl⟩
 have hRe:R=(c1&&c2&&c3&&c4&&c5&&c6):=by
  rw [← hR,← h1,← h2,← h3,← h4,← h5,← h6]
  unfold Nd.right
  congr 2
  rw [Bool.eq_iff_iff]
  simp only [decide_eq_true_eq,beq_iff_eq]
  omega
 rw [hR]
 rw [← hLL] at h5 hLl
 have hBB:=hd_ hB0
 replace hRe:=hd_ hRe
 replace hLL:=hd_ hLL
 replace h1:=hd_ h1
 replace h2:=hd_ h2
 replace h3:=hd_ h3
 replace h4:=hd_ h4
 have m6:=Z00 hm0 6
 simp only [List.getElem?_toArray,List.getElem?_cons_zero,List.getElem?_cons_succ] at m6
 have lm0:=Z04 hm0
 replace hN0:=hd_ hN0
 replace hm0:=hd_ hm0
 clear hB0 hR hp
 go_enter Tryz.func202,Tryz.ntmps202
 go_upto_region 1 with (fail)
 rw [← hW0,← hmb]
 replace hW0:=hd_ hW0
 replace hmb:=hd_ hmb
 replace h:=hd_ h
 go_upto_region 2 with (fail)
 clear m6 lm0
 refine Z05 (fun _=>False) (.q 0 (.q 1 (.q 2 (.q 3 (.q 4 (.q 5 (.q 6 (.q 7 (.l 8 (.q 9 (.q 10 (.q 11 (.q 12 (.q 13 (.q 14 (.q 15 (.l 16 (.q 17 (.q 18 (.q 19 (.q 20 (.q 21 (.l 22 (.q 23 (.q 24 (.q 25 (.q 26 (.q 27 (.q 28 (.q 29 (.l 30 (.q 31 (.q 32 (.q 33 (.q 34 (.q 37 (.q 38 (.q 39 (.l 35 (.l 36 (.q 40 (.q 41 (.q 42 (.q 43 (.q 44 (.q 45 (.q 46 (.q 47 (.q 48 (.q 49 (.q 50 .fin))))))))))))))))))))))))))))))))))))))))))))))))))) (by kernel_rfl) (by kernel_rfl) ?_
 intro w1 hhw1 hbw1
 have hNw1:=hN0.out.grow hbw1
 have u0:=Z01 (F:=fun _=>False) (b:=w1) (fun h=>h) (show w1.cell? ⟨a.b,0,none⟩=some (.int .i64 s.id) from hNw1.c 0)
 have u1:=Z01 (F:=fun _=>False) (b:=w1) (fun h=>h) (show w1.cell? ⟨a.b,1,none⟩=some (.int .i64 s.n) from hNw1.c 1)
 have hlw1:=hNw1.lt
 have hm1:=Z02 hm0.out hbw1
 have k1:=Z01 (F:=fun _=>False) (b:=w1) (fun h=>h) (show w1.cell? ⟨mb,1,none⟩=some (.int .i64 f) from Z00 hm1 1)
 have k4:=Z01 (F:=fun _=>False) (b:=w1) (fun h=>h) (show w1.cell? ⟨mb,4,none⟩=some (.int .i64 vi) from Z00 hm1 4)
 have k8:=Z01 (F:=fun _=>False) (b:=w1) (fun h=>h) (show w1.cell? ⟨mb,8,none⟩=some (.slice sa es.length sc) from Z00 hm1 8)
 have k9:=Z01 (F:=fun _=>False) (b:=w1) (fun h=>h) (show w1.cell? ⟨mb,9,none⟩=some (.int .i64 co) from Z00 hm1 9)
 have hlm:=Z04 hm1
 have hB1:=hd_ (hBB.out.trans (hbw1.mono hBB.out.size))
 have hp1:=hd_ (hp0.out.grow hbw1)
 clear hm1
 replace hNw1:=hd_ hNw1
 clear hhw1
 replace hbw1:=hd_ hbw1
 cases c1
 case false=>
  replace h1:=h1.out
  iterate 8 (refine Z0n rfl ?_;go_big_quiet_step (fail);refine wpQuiet_nil ?_)
  refine Z0j rfl (by kernel_rfl) ?_
  intro K1 hK
  go_simp
  refine (Z0p vi s.n _ hv1 hv2).mono ?_
  rintro r wx ⟨rfl,rfl⟩
  refine hK _ _ (Chg.refl _ _) ?_
  clear hK K1
  repeat (first | (refine Z0n rfl ?_;go_big_quiet_step (fail);refine wpQuiet_nil ?_) | (refine Zh0 rfl (Chg.refl _ _) (by kernel_rfl) ?_;go_simp))
  refine Z0c ?_
  go_wp2
  go_ret
  exact⟨Z0b (by rw [hRe.out];try simp),hB1.out⟩
 replace h1:=h1.out
 iterate 8 (refine Z0n rfl ?_;go_big_quiet_step (fail);refine wpQuiet_nil ?_)
 refine Z0j rfl (by kernel_rfl) ?_
 intro K1 hK
 go_simp
 refine (Z0p vi s.n _ hv1 hv2).mono ?_
 rintro r wx ⟨rfl,rfl⟩
 refine hK _ _ (Chg.refl _ _) ?_
 clear hK K1
 iterate 7 (refine Z0n rfl ?_;go_big_quiet_step (fail);refine wpQuiet_nil ?_)
 refine Z0j rfl (by kernel_rfl) ?_
 intro K1 hK
 go_simp
 refine (Z4x me s.n _).mono ?_
 rintro r wx ⟨rfl,rfl⟩
 rw [h2.out]
 refine hK _ _ (Chg.refl _ _) ?_
 clear hK K1
 cases c2
 case false=>
  repeat (first | (refine Z0n rfl ?_;go_big_quiet_step (fail);refine wpQuiet_nil ?_) | (refine Zh0 rfl (Chg.refl _ _) (by kernel_rfl) ?_;go_simp))
  refine Z0c ?_
  go_wp2
  go_ret
  exact⟨Z0b (by rw [hRe.out];try simp),hB1.out⟩
 iterate 5 (refine Z0n rfl ?_;go_big_quiet_step (fail);refine wpQuiet_nil ?_)
 refine Z0j rfl (by kernel_rfl) ?_
 intro K1 hK
 go_simp
 refine (Z3g me f _ hm).mono ?_
 rintro r wx ⟨rfl,rfl⟩
 rw [h3.out]
 refine hK _ _ (Chg.refl _ _) ?_
 clear hK K1
 cases c3
 case false=>
  repeat (first | (refine Z0n rfl ?_;go_big_quiet_step (fail);refine wpQuiet_nil ?_) | (refine Zh0 rfl (Chg.refl _ _) (by kernel_rfl) ?_;go_simp))
  refine Z0c ?_
  go_wp2
  go_ret
  exact⟨Z0b (by rw [hRe.out];try simp),hB1.out⟩
 iterate 7 (refine Z0n rfl ?_;go_big_quiet_step (fail);refine wpQuiet_nil ?_)
 refine Z0j rfl (by kernel_rfl) ?_
 intro K1 hK
 go_simp
 refine (Z3g me s.id _ hm).mono ?_
 rintro r wx ⟨rfl,rfl⟩
 rw [h4.out]
 refine hK _ _ (Chg.refl _ _) ?_
 clear hK K1
 cases c4
 case false=>
  repeat (first | (refine Z0n rfl ?_;go_big_quiet_step (fail);refine wpQuiet_nil ?_) | (refine Zh0 rfl (Chg.refl _ _) (by kernel_rfl) ?_;go_simp))
  refine Z0c ?_
  go_wp2
  go_ret
  exact⟨Z0b (by rw [hRe.out];try simp),hB1.out⟩
 iterate 7 (refine Z0n rfl ?_;go_big_quiet_step (fail);refine wpQuiet_nil ?_)
 refine Z0j rfl (by kernel_rfl) ?_
 intro K1 hK
 go_simp
 refine (Z1e _ es _ hp1.out).mono ?_
 rintro r w5 ⟨lb,rfl,hlb,hlg5,hb5⟩
 refine hK _ _ (.of_below hb5) ?_
 clear hK K1
 refine Z0j rfl (by kernel_rfl) ?_
 intro K1 hK
 go_simp
 refine (Z0m lb (Z2y es) _ hlg5.rd).mono ?_
 rintro r wx ⟨rfl,rfl⟩
 rw [← hLL.out]
 refine hK _ _ (.of_below hb5) ?_
 clear hK K1
 have hB5:=hd_ (hB1.out.trans (hb5.mono hB1.out.size))
 clear hlg5
 cases c5
 case false=>
  repeat (first | (refine Z0n rfl ?_;go_big_quiet_step (fail);refine wpQuiet_nil ?_) | (refine Zh0 rfl (.of_below hb5) (by kernel_rfl) ?_;go_simp))
  refine Z0c ?_
  go_wp2
  go_ret
  exact⟨Z0b (by rw [hRe.out];try simp),hB5.out⟩
 cases c6
 case false=>
  have h6':=of_decide_eq_false h6
  repeat (first | (refine Z0n rfl ?_;go_big_quiet_step (fail);refine wpQuiet_nil ?_) | (refine Zh0 rfl (.of_below hb5) (by kernel_rfl) ?_;go_simp))
  refine Z0c ?_
  go_wp2
  go_ret
  exact⟨Z0b (by rw [hRe.out];try simp),hB5.out⟩
 case true=>
  have h6':=of_decide_eq_true h6
  repeat (first | (refine Z0n rfl ?_;go_big_quiet_step (fail);refine wpQuiet_nil ?_) | (refine Zh0 rfl (.of_below hb5) (by kernel_rfl) ?_;go_simp))
  refine Z0c ?_
  go_wp2
  go_ret
  exact⟨Z0b (by rw [hRe.out];try simp),hB5.out⟩
end
end
section
open Go.RowKit
section
variable {own:Nat→Nat} {K:Nat} {w:World} {a:NdAt} {s:Nd} {out:List MsS}
theorem xAckB (h:NdO own K w a s out) (b:Nat) (hb:a.b=b) (k num:Int) (hl:out.length≤1000000000) :
  Calls Tryz.prog 164 #[Z09 b, .int .i64 k, .int .i64 num] w fun r w'=>r=.returned (.tuple #[])∧Stp own K w a w' s (out.map MsS.m++[s.ackM k num]):=by
 subst hb;exact Z6r h k num hl
theorem Z80 (c:Nat) (h:NdO own K w a s out) (hok:Ok c s) (m:Ms) (sa:Option Addr) (sc:Nat) (hl:out.length≤1000000) (hp:pubE own w (.slice sa m.ents.length sc) m.ents) (hl2:m.ents.length≤1000) (hm:0≤m.mem∧m.mem<128) (hv1:I64 m.view) (hc0:0≤m.com) (hc1:m.com≤1000) :
  Calls Tryz.prog 166 #[Z09 a.b,Z0w m (.slice sa m.ents.length sc)] w fun r w'=>r=.returned (.tuple #[])∧Stp own K w a w' (s.installed m).1 (out.map MsS.m++(s.installed m).2):=by
 obtain⟨k,f,t,b,vi,la,me,po,es,co,nu,cl,y⟩:=m
 dsimp only at *
 obtain⟨W0,hW0⟩:∃ W,W=w.alloc (.cells #[.int .i64 k, .int .i64 f, .int .i64 t, .int .i64 b, .int .i64 vi, .int .i64 la, .int .i64 me, .int .i64 po, .slice sa es.length sc, .int .i64 co, .int .i64 nu, .int .i64 cl, .bool y] 37):=⟨_,rfl⟩
 have hB0:Below w.heap.size w W0:=hW0 ▸ (Below.refl _ _).alloc (Nat.le_refl _) _
 obtain⟨mb,hmb⟩:∃ mb,mb=w.heap.size:=⟨_,rfl⟩
 have hm0:W0.heap[mb]?=some (.cells #[.int .i64 k, .int .i64 f, .int .i64 t, .int .i64 b, .int .i64 vi, .int .i64 la, .int .i64 me, .int .i64 po, .slice sa es.length sc, .int .i64 co, .int .i64 nu, .int .i64 cl, .bool y] 37 (0,0)):=hW0 ▸ hmb ▸ Z0a _ _
 have hN0:=h.grow hB0
 have hmo:own mb=0:=h.wf mb (by omega)
 have t0:=hd_ (Turn.grow (J:=JK K) (own:=own) hB0 h.wf)
 have h16:=h.r.k16
 have hp0:=hd_ (hp.turn (Turn.grow (J:=JK K) (own:=own) hB0 h.wf) (jk0 h16))
 obtain⟨M,hM⟩:∃ M:Ms,M=⟨k,f,t,b,vi,la,me,po,es,co,nu,cl,y⟩:=⟨_,rfl⟩
 have hRt:=hd_ (Zg0 c hN0 hok ⟨k,f,t,b,vi,la,me,po,es,co,nu,cl,y⟩ sa sc hp0.out.1 hl2 hm hv1)
 obtain⟨R,hR⟩:∃ R,s.installed ⟨k,f,t,b,vi,la,me,po,es,co,nu,cl,y⟩=R:=⟨_,rfl⟩
 have hRe:R=(if !s.right M then (s,[])
  else if s.dv≤vi∧s.last<vi then
   let s':={ s.take M with v:=none,mine:=false,pf:=s.pf.drop }
   (s',[s'.ackM f 0])
  else if vi=s.last∧vi=s.dv then
   let s':={ s with heard:=s.clock }
   (s',[s'.ackM f 0])
  else (s,[])):=by rw [← hR,hM];rfl
 rw [hR]
 obtain⟨rg,hrg⟩:∃ rg,s.right M=rg:=⟨_,rfl⟩
 rw [hM] at hrg
 rw [hrg] at hRt
 rw [← hM] at hrg
 rw [hrg] at hRe
 replace hrg:=hd_ hrg
 replace hRe:=hd_ hRe
 replace hM:=hd_ hM
 have m0:=Z00 hm0 0
 have m1:=Z00 hm0 1
 have m2:=Z00 hm0 2
 have m3:=Z00 hm0 3
 have m4:=Z00 hm0 4
 have m5:=Z00 hm0 5
 have m6:=Z00 hm0 6
 have m7:=Z00 hm0 7
 have m8:=Z00 hm0 8
 have m9:=Z00 hm0 9
 have m10:=Z00 hm0 10
 have m11:=Z00 hm0 11
 have m12:=Z00 hm0 12
 simp only [List.getElem?_toArray,List.getElem?_cons_zero,List.getElem?_cons_succ] at m0 m1 m2 m3 m4 m5 m6 m7 m8 m9 m10 m11 m12
 have lm0:=Z04 hm0
 replace hN0:=hd_ hN0
 replace hm0:=hd_ hm0
 clear hB0 hR hp
 go_enter Tryz.func166,Tryz.ntmps166
 go_upto_region 1 with (fail)
 rw [← hW0,← hmb]
 replace hW0:=hd_ hW0
 replace hmb:=hd_ hmb
 replace h:=hd_ h
 go_wp2_with fail
 refine hRt.out.mono ?_
 rintro r w1 ⟨rfl,hb1⟩
 have hN1:=hN0.out.grow hb1
 have t1':=Turn.grow (J:=JK K) hb1 hN0.out.wf
 have hp1:=hd_ (hp0.out.turn t1' (jk0 h16))
 have hT1:=hd_ (t0.out.trans t1')
 have hm1:=Z02 hm0.out hb1
 clear m0 m1 m2 m3 m4 m5 m6 m7 m8 m9 m10 m11 m12 lm0 hRt hb1 t1'
 cases rg
 case false=>
  have e:R=(s,[]):=by rw [hRe.out];rfl
  replace hN1:=hd_ hN1
  replace hm1:=hd_ hm1
  go_wp2
  go_end0
  rw [e]
  refine⟨rfl,?_⟩
  rw [List.append_nil]
  exact hN1.out.stp (.refl a) hT1.out
 have m1:=Z00 hm1 1
 have m4:=Z00 hm1 4
 simp only [List.getElem?_toArray,List.getElem?_cons_zero,List.getElem?_cons_succ] at m1 m4
 have lm1:=Z04 hm1
 have c2:w1.cell? ⟨a.b,2,none⟩=some (.pointer (some ⟨a.dk,a.od,none⟩)):=hN1.c 2
 have c11:w1.cell? ⟨a.b,11,none⟩=some (.int .i64 s.last):=hN1.c 11
 have la1:=hN1.lt
 have hdv:=hN1.dv
 replace hN1:=hd_ hN1
 replace hm1:=hd_ hm1
 go_upto_region 2 with (fail)
 have k2:=Z07 c2
 have k11:=Z07 c11
 have k4:=Z07 m4
 have HV:Hid (∀ y,Calls Tryz.prog 60 #[.pointer (some ⟨a.dk,a.od,none⟩)] (Z1c w1 y) fun r w'=>r=.returned (.int .i64 s.dv)∧∃ z,w'=Z1c w1 z):=hd_ fun y=>Z0o (Z1m _ _ _ _ (Z07 hdv y))
 go_cut [9] (fun z wx=>z=.bool (decide (s.dv≤vi)&&decide (s.last<vi))∧Below w1.heap.size w1 wx)
 case first=>
  by_cases g1:s.dv≤vi
  ·have g1':decide (s.dv≤vi)=true:=by simpa using g1
   refine Z08 (by kernel_rfl) (by kernel_rfl) ?_
   repeat (go_big_quiet_step (first | (go_at_call 60;exact HV.out _)))
   refine wpQuiet_nil ?_
   intro w3 hw3
   have hb3:=hd_ (Z0e hw3)
   clear hw3
   go_wp2_with fail
   go_meet
   exact⟨by rw [g1'];simp,hb3.out⟩
  ·have g1':decide (s.dv≤vi)=false:=by simpa using g1
   refine Z08 (by kernel_rfl) (by kernel_rfl) ?_
   repeat (go_big_quiet_step (first | (go_at_call 60;exact HV.out _)))
   refine wpQuiet_nil ?_
   intro w3 hw3
   have hb3:=hd_ (Z0e hw3)
   clear hw3
   go_wp2_with fail
   go_meet
   exact⟨by rw [g1'];simp,hb3.out⟩
 case rest=>
  obtain⟨rfl,hb3⟩:=hcut
  rename World=>w3
  obtain⟨g,hg⟩:∃ g,(decide (s.dv≤vi)&&decide (s.last<vi))=g:=⟨_,rfl⟩
  rw [hg]
  have hgi:g=true↔(s.dv≤vi∧s.last<vi):=by rw [← hg];simp
  replace hg:=hd_ hg
  have hN3:=hN1.out.grow hb3
  have t3':=Turn.grow (J:=JK K) hb3 hN1.out.wf
  have hp3:=hd_ (hp1.out.turn t3' (jk0 h16))
  have hT3:=hd_ (hT1.out.trans t3')
  have hm3:=Z02 hm1.out hb3
  clear hb3 t3' k2 k4 k11 m1 m4 lm1 c2 c11 la1 hdv HV
  have m0:=Z00 hm3 0
  have m1:=Z00 hm3 1
  have m2:=Z00 hm3 2
  have m3:=Z00 hm3 3
  have m4:=Z00 hm3 4
  have m5:=Z00 hm3 5
  have m6:=Z00 hm3 6
  have m7:=Z00 hm3 7
  have m8:=Z00 hm3 8
  have m9:=Z00 hm3 9
  have m10:=Z00 hm3 10
  have m11:=Z00 hm3 11
  have m12:=Z00 hm3 12
  simp only [List.getElem?_toArray,List.getElem?_cons_zero,List.getElem?_cons_succ] at m0 m1 m2 m3 m4 m5 m6 m7 m8 m9 m10 m11 m12
  have lm3:=Z04 hm3
  have la3:=hN3.lt
  cases g
  case true=>
   have e:R=(let s':={ s.take M with v:=none,mine:=false,pf:=s.pf.drop };(s',[s'.ackM f 0])):=by rw [hRe.out];show (if s.dv≤vi∧s.last<vi then _ else _)=_;exact if_pos (hgi.1 rfl)
   replace e:=hd_ e
   have hTk:=hd_ (Zat hN3 hok.o0 hok.o1 hok.lg ⟨k,f,t,b,vi,la,me,po,es,co,nu,cl,y⟩ sa sc hp3.out hc0 hc1 hv1)
   replace hN3:=hd_ hN3
   replace hm3:=hd_ hm3
   replace hgi:=hd_ hgi
   go_wp2_with fail
   refine hTk.out.mono ?_
   rintro r w4 ⟨rfl,own4,a4,o4,hN4,ho4,e4,t4⟩
   rw [← hM.out] at hN4
   obtain⟨s4,hs4⟩:∃ s4,s4=s.take M:=⟨_,rfl⟩
   rw [← hs4] at hN4
   rw [← hs4] at e
   have hm4:=t4.pub hm3.out (by rw [hmo];exact jk0 h16)
   have hmo4:own4 mb=0:=(t4.old mb lm3).trans hmo
   have hT4:=hT3.out.trans t4
   clear m0 m1 m2 m3 m4 m5 m6 m7 m8 m9 m10 m11 m12 lm3 la3 hTk t4
   have hab:=hd_ e4.b
   have q17:w4.cell? ⟨a.b,17,none⟩=some (Z3f a4.v):=hN4.cb hab.out 17
   have q20:w4.cell? ⟨a.b,20,none⟩=some (.bool s4.mine):=hN4.cb hab.out 20
   have z17:=hN4.free 17
   have z20:=hN4.free 20
   have la4:=hN4.lt
   rw [hab.out] at z17 z20 la4
   obtain⟨hA,tA⟩:=hN4.s17n
   obtain⟨hB,tB⟩:=hA.s20 false
   have hm5:=tB.pub (tA.pub hm4 (by omega)) (by omega)
   have hT5:=hT4.trans ((tA.mono jkK).trans (tB.mono jkK))
   obtain⟨W5,hW5⟩:∃ W5,W5=((w4.setCell ⟨a4.b,17,none⟩ (.pointer none)).setCell ⟨a4.b,20,none⟩ (.bool false)):=⟨_,rfl⟩
   have hN5:NdO own4 K W5 { a4 with v:=none } { s4 with v:=none,mine:=false } o4:=hW5 ▸ hB
   replace hm5:=hd_ (show W5.heap[mb]?=_ from hW5 ▸ hm5)
   replace hT5:=hd_ (show Turn (JK K) own own4 w W5 from hW5 ▸ hT5)
   have c16:W5.cell? ⟨a.b,16,none⟩=some (Z09 a4.f):=hN5.cb hab.out 16
   have la5:a4.b<W5.heap.size:=hN5.lt
   rw [hab.out] at la5 hW5
   replace hN5:=hd_ hN5
   clear hA hB tA tB hm4 hT4
   replace hN4:=hd_ hN4
   go_upto_region 5 with (fail)
   rw [← hW5]
   replace hW5:=hd_ hW5
   clear q17 q20 z17 z20 la4
   go_wp2_with fail
   refine (Zii hN5.out).mono ?_
   rintro r w6 ⟨rfl,own6,hN6,t6⟩
   have t6:=t6.mono (J':=JK K) fun o e=>by unfold JK;omega
   have hm6:=t6.pub hm5.out (by rw [hmo4];exact jk0 h16)
   have hT6:=hT5.out.trans t6
   have m1:=Z00 hm6 1
   simp only [List.getElem?_toArray,List.getElem?_cons_zero,List.getElem?_cons_succ] at m1
   have lm6:=Z04 hm6
   have lo4:o4.length≤1000000:=by have:=congrArg List.length ho4;simp at this;omega
   have hAk:=hd_ (xAckB hN6 a.b hab.out f 0 (by omega))
   have la6:=hN6.lt
   rw [show a4.b=a.b from hab.out] at la6
   replace hN6:=hd_ hN6
   replace hm6:=hd_ hm6
   clear t6 c16 la5
   go_wp2_with fail
   refine hAk.out.mono ?_
   rintro r w7 ⟨rfl,hst⟩
   have hst2:=hst.after (a:=a) ⟨e4.b,e4.dk,e4.od,e4.cs,e4.T⟩ hT6
   have hst3:=hd_ (show Stp own K w a w7 ({ s4 with v:=none,mine:=false,pf:=s4.pf.drop }:Nd) (out.map MsS.m++[({ s4 with v:=none,mine:=false,pf:=s4.pf.drop }:Nd).ackM f 0]) from by rw [← ho4];exact hst2)
   have hpf:s4.pf=s.pf:=by rw [hs4];rfl
   rw [hpf] at hst3
   clear hst hst2 hAk m1 lm6
   go_wp2
   go_end0
   rw [e.out]
   exact⟨rfl,hst3.out⟩
  have hng:¬ (s.dv≤vi∧s.last<vi):=fun h=>by have:=hgi.2 h;cases this
  replace hng:=hd_ hng
  replace hgi:=hd_ hgi
  have c2:w3.cell? ⟨a.b,2,none⟩=some (.pointer (some ⟨a.dk,a.od,none⟩)):=hN3.c 2
  have c11:w3.cell? ⟨a.b,11,none⟩=some (.int .i64 s.last):=hN3.c 11
  have hdv:=hN3.dv
  clear m0 m2 m3 m5 m6 m7 m8 m9 m10 m11 m12
  replace hN3:=hd_ hN3
  replace hm3:=hd_ hm3
  go_upto_region 7 with (fail)
  have k2:=Z07 c2
  have k11:=Z07 c11
  have k4:=Z07 m4
  have HV:Hid (∀ y,Calls Tryz.prog 60 #[.pointer (some ⟨a.dk,a.od,none⟩)] (Z1c w3 y) fun r w'=>r=.returned (.int .i64 s.dv)∧∃ z,w'=Z1c w3 z):=hd_ fun y=>Z0o (Z1m _ _ _ _ (Z07 hdv y))
  go_cut [45] (fun z wx=>z=.bool (vi==s.last&&vi==s.dv)∧Below w3.heap.size w3 wx)
  case first=>
   by_cases g1:vi=s.last
   ·have g1':(vi==s.last)=true:=by simpa using g1
    replace g1:=hd_ g1
    refine Z08 (by kernel_rfl) (by kernel_rfl) ?_
    repeat (go_big_quiet_step (first | (go_at_call 60;exact HV.out _)))
    refine wpQuiet_nil ?_
    intro w5 hw5
    have hb5:=hd_ (Z0e hw5)
    clear hw5
    go_wp2_with fail
    go_meet
    exact⟨by rw [g1'];simp,hb5.out⟩
   ·have g1':(vi==s.last)=false:=by simpa using g1
    replace g1:=hd_ g1
    refine Z08 (by kernel_rfl) (by kernel_rfl) ?_
    repeat (go_big_quiet_step (first | (go_at_call 60;exact HV.out _)))
    refine wpQuiet_nil ?_
    intro w5 hw5
    have hb5:=hd_ (Z0e hw5)
    clear hw5
    go_wp2_with fail
    go_meet
    exact⟨by rw [g1'];simp,hb5.out⟩
  case rest=>
   obtain⟨rfl,hb5⟩:=hcut
   rename World=>w5
   obtain⟨g,hg⟩:∃ g,(vi==s.last&&vi==s.dv)=g:=⟨_,rfl⟩
   rw [hg]
   have hgi2:g=true↔(vi=s.last∧vi=s.dv):=by rw [← hg];simp
   replace hg:=hd_ hg
   have hN5:=hN3.out.grow hb5
   have t5':=Turn.grow (J:=JK K) hb5 hN3.out.wf
   have hT5:=hd_ (hT3.out.trans t5')
   have hm5:=Z02 hm3.out hb5
   clear hb5 t5' k2 k4 k11 m1 m4 lm3 c2 c11 la3 hdv HV
   cases g
   case false=>
    have hng2:¬ (vi=s.last∧vi=s.dv):=fun h=>by have:=hgi2.2 h;cases this
    have e:R=(s,[]):=by rw [hRe.out];show (if s.dv≤vi∧s.last<vi then _ else _)=_;rw [if_neg hng.out,if_neg hng2]
    replace e:=hd_ e
    replace hN5:=hd_ hN5
    replace hm5:=hd_ hm5
    replace hgi2:=hd_ hgi2
    replace hng2:=hd_ hng2
    go_wp2
    go_end0
    rw [e.out]
    refine⟨rfl,?_⟩
    rw [List.append_nil]
    exact hN5.out.stp (.refl a) hT5.out
   have e:R=({ s with heard:=s.clock },[({ s with heard:=s.clock }:Nd).ackM f 0]):=by
    rw [hRe.out];show (if s.dv≤vi∧s.last<vi then _ else _)=_
    rw [if_neg hng.out,if_pos (hgi2.1 rfl)]
   replace e:=hd_ e
   replace hgi2:=hd_ hgi2
   have m1:=Z00 hm5 1
   simp only [List.getElem?_toArray,List.getElem?_cons_zero,List.getElem?_cons_succ] at m1
   have lm5:=Z04 hm5
   have q4:w5.cell? ⟨a.b,4,none⟩=some (.int .i64 s.clock):=hN5.c 4
   have q5:w5.cell? ⟨a.b,5,none⟩=some (.int .i64 s.heard):=hN5.c 5
   have z5:=hN5.free 5
   have la5:=hN5.lt
   obtain⟨hA,tA⟩:=hN5.s5 s.clock
   have hmA:=tA.pub hm5 (by omega)
   have hT6:=hT5.out.trans (tA.mono jkK)
   obtain⟨W6,hW6⟩:∃ W6,W6=(w5.setCell ⟨a.b,5,none⟩ (.int .i64 s.clock)):=⟨_,rfl⟩
   rw [← hW6] at hA hmA hT6
   replace hN5:=hd_ hN5
   replace hm5:=hd_ hm5
   go_upto_region 9 with (fail)
   rw [← hW6]
   replace hW6:=hd_ hW6
   clear m1 q4 q5 z5 la5 lm5 tA
   have m1:=Z00 hmA 1
   simp only [List.getElem?_toArray,List.getElem?_cons_zero,List.getElem?_cons_succ] at m1
   have lm6:=Z04 hmA
   have hAk:=hd_ (Z6r hA f 0 (by omega))
   have la6:=hA.lt
   replace hA:=hd_ hA
   replace hmA:=hd_ hmA
   go_wp2_with fail
   refine hAk.out.mono ?_
   rintro r w7 ⟨rfl,hst⟩
   have hst2:=hd_ (hst.after (.refl a) hT6)
   clear hst hAk
   go_wp2
   go_end0
   rw [e.out]
   exact⟨rfl,hst2.out⟩
end
end
section
open Go.RowKit
theorem gr_ext {own:Nat→Nat} {w w':World} (wf:∀ c,w.heap.size≤c→own c=0) {j:Nat} (hj:j≠0):∀ k,Gr (Is own j) w w' k→Is (Z5q own w.heap.size w'.heap.size j) j k:=fun k h=>by
 rcases h with h | h
 ·have hk:k<w.heap.size:=Nat.lt_of_not_le fun e=>hj ((wf k e).symm.trans h).symm
  exact (Z3k hk).trans h
 ·exact Z20 (by omega) h.2
section
variable {own:Nat→Nat} {K:Nat} {w:World} {a:NdAt} {s:Nd} {out:List MsS}
theorem ndLPut (h:NdO own K w a s out) (v2:Value) (es:List Ent) (k:Int) (hr2:rdE w v2 es) (hl:s.L.length≤60) :
  Calls Tryz.prog 203 #[Z09 a.l, .int .i64 k,v2] w fun r w'=>r=.returned (.bool (Z6p s.L k es).isSome)∧∃ own',NdO own' K w' a { s with L:=(Z6p s.L k es).getD s.L } out∧Turn (fun o=>o=K+3) own own' w w':=by
 refine (Zfa a.l v2 s.L es k (Is own (K+3)) w h.r.lg hr2 hl).mono ?_
 rintro r w' ⟨rfl,hg,hc⟩
 have hk:=h.r.k16
 have t0:=Turn.ext hc
 exact⟨rfl,_,⟨t0.pub h.blk (by rw [h.r.ob];omega),h.ears,h.r.putL (t0.mono fun o e=>.inr e) (hg.mono (gr_ext h.wf (by omega)))⟩,t0⟩
theorem Zct (c:Nat) (h:NdO own K w a s out) (hok:Ok c s) (m:Ms) (sa:Option Addr) (sc:Nat) (hl:out.length≤1000000) (hp:pubE own w (.slice sa m.ents.length sc) m.ents) (hl2:m.ents.length≤1000) (hc0:0≤m.com) (hc1:m.com≤1000) :
  Calls Tryz.prog 167 #[Z09 a.b,Z0w m (.slice sa m.ents.length sc)] w fun r w'=>r=.returned (.tuple #[])∧Stp own K w a w' (s.append m).1 (out.map MsS.m++(s.append m).2):=by
 obtain⟨k,f,t,b,vi,la,me,po,es,co,nu,cl,y⟩:=m
 dsimp only at *
 obtain⟨W0,hW0⟩:∃ W,W=w.alloc (.cells #[.int .i64 k, .int .i64 f, .int .i64 t, .int .i64 b, .int .i64 vi, .int .i64 la, .int .i64 me, .int .i64 po, .slice sa es.length sc, .int .i64 co, .int .i64 nu, .int .i64 cl, .bool y] 37):=⟨_,rfl⟩
 have hB0:Below w.heap.size w W0:=hW0 ▸ (Below.refl _ _).alloc (Nat.le_refl _) _
 obtain⟨mb,hmb⟩:∃ mb,mb=w.heap.size:=⟨_,rfl⟩
 have hm0:W0.heap[mb]?=some (.cells #[.int .i64 k, .int .i64 f, .int .i64 t, .int .i64 b, .int .i64 vi, .int .i64 la, .int .i64 me, .int .i64 po, .slice sa es.length sc, .int .i64 co, .int .i64 nu, .int .i64 cl, .bool y] 37 (0,0)):=hW0 ▸ hmb ▸ Z0a _ _
 have hN0:=h.grow hB0
 have hmo:own mb=0:=h.wf mb (by omega)
 have t0:=hd_ (Turn.grow (J:=JK K) (own:=own) hB0 h.wf)
 have h16:=h.r.k16
 have hp0:=hd_ (hp.turn (Turn.grow (J:=JK K) (own:=own) hB0 h.wf) (jk0 h16))
 obtain⟨M,hM⟩:∃ M:Ms,M=⟨k,f,t,b,vi,la,me,po,es,co,nu,cl,y⟩:=⟨_,rfl⟩
 obtain⟨R,hR⟩:∃ R,s.append ⟨k,f,t,b,vi,la,me,po,es,co,nu,cl,y⟩=R:=⟨_,rfl⟩
 have hRe:R=(if !s.in_||vi != s.last||f != Z1y s.last s.n then (s,[])
  else
   let s':=match Z6p s.L po es with
    | some L=>{ s with L:=L,com:=max s.com (min co L.length) }
    | none=>s
   let s':={ s' with heard:=s.clock }
   (s',[s'.ackM f nu])):=by
  rw [← hR]
  unfold Nd.append
  cases hput:Z6p s.L po es with
  | none=>rfl
  | some L=>rfl
 rw [hR]
 replace hRe:=hd_ hRe
 have m1:=Z00 hm0 1
 have m4:=Z00 hm0 4
 simp only [List.getElem?_toArray,List.getElem?_cons_zero,List.getElem?_cons_succ] at m1 m4
 have lm0:=Z04 hm0
 have hl0:=hok.l0
 have hl1:=hok.l1
 have hd1:=hok.d1
 have hcom0:=hok.o0
 have hcom1:=hok.o1
 have hcom2:=hok.lg
 have c1:W0.cell? ⟨a.b,1,none⟩=some (.int .i64 s.n):=hN0.c 1
 have c11:W0.cell? ⟨a.b,11,none⟩=some (.int .i64 s.last):=hN0.c 11
 have la0:=hN0.lt
 have HI:Hid (∀ y,Calls Tryz.prog 77 #[Z09 a.b] (Z1c W0 y) fun r w'=>r=.returned (.bool s.in_)∧∃ z,w'=Z1c W0 z):=hd_ fun y=>
  Z5l (Z41 own K a s out _ (hN0.grow (Z0s W0 y)) ⟨hok.m0,hok.m1⟩)
 have HD:Hid (∀ y,Calls Tryz.prog 89 #[.int .i64 s.last, .int .i64 s.n] (Z1c W0 y) fun r w'=>r=.returned (.int .i64 (Z1y s.last s.n))∧∃ z,w'=Z1c W0 z):=hd_ fun y=>
  Z0o (Z0p s.last s.n _ (by omega) (by omega))
 replace hN0:=hd_ hN0
 replace hm0:=hd_ hm0
 clear hB0 hR hp
 go_enter Tryz.func167,Tryz.ntmps167
 go_upto_region 1 with (fail)
 rw [← hW0,← hmb]
 replace hW0:=hd_ hW0
 replace hmb:=hd_ hmb
 replace h:=hd_ h
 have k1:=Z07 c1
 have k11:=Z07 c11
 have k4:=Z07 m4
 have km1:=Z07 m1
 go_cut [29] (fun z wx=>z=.bool (!s.in_||vi != s.last||f != Z1y s.last s.n)∧Below W0.heap.size W0 wx)
 case first=>
  obtain⟨i,hi⟩:∃ i,s.in_=i:=⟨_,rfl⟩
  rw [hi] at HI
  cases i
  ·refine Z08 (by kernel_rfl) (by kernel_rfl) ?_
   repeat (go_big_quiet_step (first | (go_at_call 77;exact HI.out _) | (go_at_call 89;exact HD.out _)))
   refine wpQuiet_nil ?_
   intro w3 hw3
   have hb3:=hd_ (Z0e hw3)
   clear hw3
   go_wp2_with fail
   go_meet
   exact⟨by rw [hi];simp,hb3.out⟩
  ·by_cases g1:vi=s.last
   ·have g1':(vi != s.last)=false:=by simpa using g1
    replace g1:=hd_ g1
    refine Z08 (by kernel_rfl) (by kernel_rfl) ?_
    repeat (go_big_quiet_step (first | (go_at_call 77;exact HI.out _) | (go_at_call 89;exact HD.out _)))
    refine wpQuiet_nil ?_
    intro w3 hw3
    have hb3:=hd_ (Z0e hw3)
    clear hw3
    go_wp2_with fail
    go_meet
    exact⟨by rw [hi,g1'];simp,hb3.out⟩
   ·have g1':(vi != s.last)=true:=by simpa using g1
    replace g1:=hd_ g1
    refine Z08 (by kernel_rfl) (by kernel_rfl) ?_
    repeat (go_big_quiet_step (first | (go_at_call 77;exact HI.out _) | (go_at_call 89;exact HD.out _)))
    refine wpQuiet_nil ?_
    intro w3 hw3
    have hb3:=hd_ (Z0e hw3)
    clear hw3
    go_wp2_with fail
    go_meet
    exact⟨by rw [hi,g1'];simp,hb3.out⟩
 case rest=>
  obtain⟨rfl,hb3⟩:=hcut
  rename World=>w3
  obtain⟨g,hg⟩:∃ g,(!s.in_||vi != s.last||f != Z1y s.last s.n)=g:=⟨_,rfl⟩
  rw [hg]
  rw [hg] at hRe
  replace hg:=hd_ hg
  have hN3:=hN0.out.grow hb3
  have t3':=Turn.grow (J:=JK K) hb3 hN0.out.wf
  have hp3:=hd_ (hp0.out.turn t3' (jk0 h16))
  have hT3:=hd_ (t0.out.trans t3')
  have hm3:=Z02 hm0.out hb3
  clear hb3 t3' k1 k4 k11 km1 m1 m4 lm0 c1 c11 la0 HI HD
  cases g
  case true=>
   have e:=hd_ (show R=(s,[]) from hRe.out)
   replace hN3:=hd_ hN3
   replace hm3:=hd_ hm3
   go_wp2
   refine bodyPost_ret (results_none rfl _ _ _) rfl ?_
   rw [e.out]
   refine⟨rfl,?_⟩
   rw [List.append_nil]
   exact hN3.out.stp (.refl a) hT3.out
  have e:R=(let s':=match Z6p s.L po es with
    | some L=>{ s with L:=L,com:=max s.com (min co L.length) }
    | none=>s
   let s':={ s' with heard:=s.clock }
   (s',[s'.ackM f nu])):=hRe.out
  replace e:=hd_ e
  replace hN3:=hd_ hN3
  replace hm3:=hd_ hm3
  go_upto_region 2 with (fail)
  refine Z05 (fun _=>False) (.q 0 (.q 1 (.q 2 (.q 3 (.q 4 (.q 5 (.q 6 (.q 7 (.cut (.l 8 .fin)))))))))) (by kernel_rfl) (by kernel_rfl) ?_
  intro w4 hhw4 hbw4
  have hNw4:=hN3.out.grow hbw4
  have u9:=Z01 (F:=fun _=>False) (b:=w4) (fun h=>h) (show w4.cell? ⟨a.b,9,none⟩=some (Z09 a.l) from hNw4.c 9)
  have hlw4:=hNw4.lt
  have hm4:=Z02 hm3.out hbw4
  have k7:=Z01 (F:=fun _=>False) (b:=w4) (fun h=>h) (show w4.cell? ⟨mb,7,none⟩=some (.int .i64 po) from Z00 hm4 7)
  have k8:=Z01 (F:=fun _=>False) (b:=w4) (fun h=>h) (show w4.cell? ⟨mb,8,none⟩=some (.slice sa es.length sc) from Z00 hm4 8)
  have hlm:=Z04 hm4
  have t4':=Turn.grow (J:=JK K) hbw4 hN3.out.wf
  have hp4:=hd_ (hp3.out.turn t4' (jk0 h16))
  have hT4:=hd_ (hT3.out.trans t4')
  clear t4'
  replace hm4:=hd_ hm4
  replace hNw4:=hd_ hNw4
  clear hhw4
  replace hbw4:=hd_ hbw4
  iterate 8 (refine Z0n rfl ?_;go_big_quiet_step (fail);refine wpQuiet_nil ?_)
  refine Z0h Z1j ?_
  refine Z0j rfl (by kernel_rfl) ?_
  intro K1 hK
  go_simp
  refine (ndLPut hNw4.out (.slice sa es.length sc) es po hp4.out.1 hcom2).mono ?_
  rintro r w5 ⟨rfl,own5,hN5,t5⟩
  refine hK _ _ (Z0l t5) ?_
  clear hK K1
  refine Z0c ?_
  have t5':=t5.mono (J':=JK K) fun o e=>by unfold JK;omega
  have hm5:=hd_ (t5'.pub hm4.out (by rw [hmo];exact jk0 h16))
  have hmo5:own5 mb=0:=(t5'.old mb hlm).trans hmo
  have hT5:=hd_ (hT4.out.trans t5')
  clear t5 t5' u9 k7 k8 hlm hlw4
  obtain⟨P,hP⟩:∃ P,Z6p s.L po es=P:=⟨_,rfl⟩
  rw [hP] at hN5 e ⊢
  replace hP:=hd_ hP
  replace hM:=hd_ hM
  cases P
  case none=>
   rw [show (none:Option (List Ent)).isSome=false from rfl]
   replace hN5:NdO own5 K w5 a s out:=hN5
   replace e:=hd_ (show R=({ s with heard:=s.clock },[({ s with heard:=s.clock }:Nd).ackM f nu]) from e.out)
   have q4:w5.cell? ⟨a.b,4,none⟩=some (.int .i64 s.clock):=hN5.c 4
   have q5:w5.cell? ⟨a.b,5,none⟩=some (.int .i64 s.heard):=hN5.c 5
   have z5:=hN5.free 5
   have la5:=hN5.lt
   obtain⟨hA,tA⟩:=hN5.s5 s.clock
   have h16':=h16
   have hmA:=tA.pub hm5.out (by rw [hmo5];omega)
   have hT8:=hT5.out.trans (tA.mono jkK)
   obtain⟨W8,hW8⟩:∃ W8,W8=(w5.setCell ⟨a.b,5,none⟩ (.int .i64 s.clock)):=⟨_,rfl⟩
   rw [← hW8] at hA hmA hT8
   replace hN5:=hd_ hN5
   go_upto_region 5 with (fail)
   rw [← hW8]
   replace hW8:=hd_ hW8
   clear q4 q5 z5 la5 tA
   have m1:=Z00 hmA 1
   have m10:=Z00 hmA 10
   simp only [List.getElem?_toArray,List.getElem?_cons_zero,List.getElem?_cons_succ] at m1 m10
   have lm8:=Z04 hmA
   have hAk:=hd_ (Z6r hA f nu (by omega))
   have la8:=hA.lt
   replace hA:=hd_ hA
   replace hmA:=hd_ hmA
   go_wp2_with fail
   refine hAk.out.mono ?_
   rintro r w9 ⟨rfl,hst⟩
   have hst2:=hd_ (hst.after (.refl a) hT8)
   clear hst hAk
   go_wp2
   go_end0
   rw [e.out]
   exact⟨rfl,hst2.out⟩
  rename List Ent=>L
  rw [show (some L:Option (List Ent)).isSome=true from rfl]
  replace hN5:NdO own5 K w5 a { s with L:=L } out:=hN5
  obtain⟨nc,hnc⟩:∃ nc,nc=max s.com (min co (L.length:Int)):=⟨_,rfl⟩
  replace e:=hd_ (show R=({ s with L:=L,com:=nc,heard:=s.clock },[({ s with L:=L,com:=nc,heard:=s.clock }:Nd).ackM f nu]) from by rw [hnc];exact e.out)
  replace hN5:=hd_ hN5
  go_upto_region 3 with (fail)
  refine Z05 (fun _=>False) (.q 0 (.q 1 (.q 2 (.q 3 (.q 4 (.q 5 (.q 6 (.q 7 (.q 8 (.q 9 (.q 10 (.l 11 (.q 12 (.q 13 (.q 14 (.q 15 (.cut (.l 16 .fin)))))))))))))))))) (by kernel_rfl) (by kernel_rfl) ?_
  intro w6 hhw6 hbw6
  have hNw6:=hN5.out.grow hbw6
  have u9:=Z01 (F:=fun _=>False) (b:=w6) (fun h=>h) (show w6.cell? ⟨a.b,9,none⟩=some (Z09 a.l) from hNw6.c 9)
  have u10:=Z01 (F:=fun _=>False) (b:=w6) (fun h=>h) (show w6.cell? ⟨a.b,10,none⟩=some (.int .i64 s.com) from hNw6.c 10)
  have hlw6:=hNw6.lt
  have hm6:=Z02 hm5.out hbw6
  have km9:=Z01 (F:=fun _=>False) (b:=w6) (fun h=>h) (show w6.cell? ⟨mb,9,none⟩=some (.int .i64 co) from Z00 hm6 9)
  have hlm:=Z04 hm6
  have q10:w6.cell? ⟨a.b,10,none⟩=some (.int .i64 s.com):=hNw6.c 10
  have z10:=hNw6.free 10
  have hT6:=hd_ (hT5.out.trans (Turn.grow (J:=JK K) hbw6 hN5.out.wf))
  replace hm6:=hd_ hm6
  replace hNw6:=hd_ hNw6
  clear hhw6
  replace hbw6:=hd_ hbw6
  iterate 11 (refine Z0n rfl ?_;go_big_quiet_step (fail);refine wpQuiet_nil ?_)
  refine Z0j rfl (by kernel_rfl) ?_
  intro K1 hK
  go_simp
  refine (Z0m a.l L _ hNw6.out.r.lg.rd).mono ?_
  rintro r wx ⟨rfl,rfl⟩
  refine hK _ _ (Chg.refl _ _) ?_
  clear hK K1
  iterate 4 (refine Z0n rfl ?_;go_big_quiet_step (fail);refine wpQuiet_nil ?_)
  refine Z0h Z1j ?_
  refine Z0j rfl (by kernel_rfl) ?_
  intro K1 hK
  go_simp
  rw [← hnc]
  obtain⟨hN7,t7⟩:=hNw6.out.s10 nc
  refine hK _ _ (Z06 (Chg.refl _ _) trivial) ?_
  clear hK K1
  refine Z0c ?_
  have hT7:=hd_ (hT6.out.trans (t7.mono jkK))
  have hm7:=hd_ (t7.pub hm6.out (by rw [hmo5];omega))
  obtain⟨W7,hW7⟩:∃ W7,W7=w6.setCell ⟨a.b,10,none⟩ (.int .i64 nc):=⟨_,rfl⟩
  rw [← hW7] at hN7 hT7 hm7 ⊢
  replace hW7:=hd_ hW7
  replace hnc:=hd_ hnc
  clear t7 u9 u10 km9 hlm q10 z10 hlw6
  have q4:W7.cell? ⟨a.b,4,none⟩=some (.int .i64 s.clock):=hN7.c 4
  have q5:W7.cell? ⟨a.b,5,none⟩=some (.int .i64 s.heard):=hN7.c 5
  have z5:=hN7.free 5
  have la5:=hN7.lt
  obtain⟨hA,tA⟩:=hN7.s5 s.clock
  have h16':=h16
  have hmA:=tA.pub hm7.out (by rw [hmo5];omega)
  have hT8:=hT7.out.trans (tA.mono jkK)
  obtain⟨W8,hW8⟩:∃ W8,W8=(W7.setCell ⟨a.b,5,none⟩ (.int .i64 s.clock)):=⟨_,rfl⟩
  rw [← hW8] at hA hmA hT8
  replace hN7:=hd_ hN7
  go_upto_region 5 with (fail)
  rw [← hW8]
  replace hW8:=hd_ hW8
  clear q4 q5 z5 la5 tA
  have m1:=Z00 hmA 1
  have m10:=Z00 hmA 10
  simp only [List.getElem?_toArray,List.getElem?_cons_zero,List.getElem?_cons_succ] at m1 m10
  have lm8:=Z04 hmA
  have hAk:=hd_ (Z6r hA f nu (by omega))
  have la8:=hA.lt
  replace hA:=hd_ hA
  replace hmA:=hd_ hmA
  go_wp2_with fail
  refine hAk.out.mono ?_
  rintro r w9 ⟨rfl,hst⟩
  have hst2:=hd_ (hst.after (.refl a) hT8)
  clear hst hAk
  go_wp2
  go_end0
  rw [e.out]
  exact⟨rfl,hst2.out⟩
theorem Zcu (c:Nat) (h:NdO own K w a s out) (hok:Ok c s) (m:Ms) (sa:Option Addr) (sc:Nat) (hk:m.kind=4) (hl:out.length≤1000000) (hp:pubE own w (.slice sa m.ents.length sc) m.ents) (hl2:m.ents.length≤1000) (hm:0≤m.mem∧m.mem<128) (hv1:I64 m.view) (hc0:0≤m.com) (hc1:m.com≤1000) :
  Calls Tryz.prog 118 #[Z09 a.b,Z0w m (.slice sa m.ents.length sc)] w fun r w'=>r=.returned (.tuple #[])∧Stp own K w a w' (s.hears m).1 (out.map MsS.m++(s.hears m).2):=by
 obtain⟨k,f,t,b,vi,la,me,po,es,co,nu,cl,y⟩:=m
 dsimp only at *
 subst hk
 obtain⟨W0,hW0⟩:∃ W,W=w.alloc (.cells #[.int .i64 4, .int .i64 f, .int .i64 t, .int .i64 b, .int .i64 vi, .int .i64 la, .int .i64 me, .int .i64 po, .slice sa es.length sc, .int .i64 co, .int .i64 nu, .int .i64 cl, .bool y] 37):=⟨_,rfl⟩
 have hB0:Below w.heap.size w W0:=hW0 ▸ (Below.refl _ _).alloc (Nat.le_refl _) _
 obtain⟨mb,hmb⟩:∃ mb,mb=w.heap.size:=⟨_,rfl⟩
 have hm0:W0.heap[mb]?=some (.cells #[.int .i64 4, .int .i64 f, .int .i64 t, .int .i64 b, .int .i64 vi, .int .i64 la, .int .i64 me, .int .i64 po, .slice sa es.length sc, .int .i64 co, .int .i64 nu, .int .i64 cl, .bool y] 37 (0,0)):=hW0 ▸ hmb ▸ Z0a _ _
 have hN0:=h.grow hB0
 have hmo:own mb=0:=h.wf mb (by omega)
 have t0:=hd_ (Turn.grow (J:=JK K) (own:=own) hB0 h.wf)
 have hcall:=hd_ (Z80 c hN0 hok ⟨4,f,t,b,vi,la,me,po,es,co,nu,cl,y⟩ sa sc hl (hp.turn (Turn.grow (J:=JK K) (own:=own) hB0 h.wf) (jk0 h.r.k16)) hl2 hm hv1 hc0 hc1)
 have hRe:s.hears ⟨4,f,t,b,vi,la,me,po,es,co,nu,cl,y⟩=s.installed ⟨4,f,t,b,vi,la,me,po,es,co,nu,cl,y⟩:=rfl
 rw [hRe]
 obtain⟨R,hR⟩:∃ R,s.installed ⟨4,f,t,b,vi,la,me,po,es,co,nu,cl,y⟩=R:=⟨_,rfl⟩
 rw [hR] at hcall ⊢
 have m0:=Z00 hm0 0
 have m1:=Z00 hm0 1
 have m2:=Z00 hm0 2
 have m3:=Z00 hm0 3
 have m4:=Z00 hm0 4
 have m5:=Z00 hm0 5
 have m6:=Z00 hm0 6
 have m7:=Z00 hm0 7
 have m8:=Z00 hm0 8
 have m9:=Z00 hm0 9
 have m10:=Z00 hm0 10
 have m11:=Z00 hm0 11
 have m12:=Z00 hm0 12
 simp only [List.getElem?_toArray,List.getElem?_cons_zero,List.getElem?_cons_succ] at m0 m1 m2 m3 m4 m5 m6 m7 m8 m9 m10 m11 m12
 have lm0:=Z04 hm0
 clear hR hRe
 replace hm0:=hd_ hm0
 replace hN0:=hd_ hN0
 replace hB0:=hd_ hB0
 go_enter Tryz.func118,Tryz.ntmps118
 go_upto_region 1 with (fail)
 rw [← hW0,← hmb]
 replace hW0:=hd_ hW0
 replace h:=hd_ h
 replace hmb:=hd_ hmb
 go_wp2_with fail
 refine hcall.out.mono ?_
 rintro r w1 ⟨rfl,hst⟩
 have hst2:=hd_ (hst.after (.refl a) t0.out)
 clear hst hcall
 go_wp2
 go_end0
 exact⟨rfl,hst2.out⟩
theorem Zg1 (c:Nat) (h:NdO own K w a s out) (hok:Ok c s) (m:Ms) (sa:Option Addr) (sc:Nat) (hk:m.kind=5) (hl:out.length≤1000000) (hp:pubE own w (.slice sa m.ents.length sc) m.ents) (hl2:m.ents.length≤1000) (hc0:0≤m.com) (hc1:m.com≤1000) :
  Calls Tryz.prog 118 #[Z09 a.b,Z0w m (.slice sa m.ents.length sc)] w fun r w'=>r=.returned (.tuple #[])∧Stp own K w a w' (s.hears m).1 (out.map MsS.m++(s.hears m).2):=by
 obtain⟨k,f,t,b,vi,la,me,po,es,co,nu,cl,y⟩:=m
 dsimp only at *
 subst hk
 obtain⟨W0,hW0⟩:∃ W,W=w.alloc (.cells #[.int .i64 5, .int .i64 f, .int .i64 t, .int .i64 b, .int .i64 vi, .int .i64 la, .int .i64 me, .int .i64 po, .slice sa es.length sc, .int .i64 co, .int .i64 nu, .int .i64 cl, .bool y] 37):=⟨_,rfl⟩
 have hB0:Below w.heap.size w W0:=hW0 ▸ (Below.refl _ _).alloc (Nat.le_refl _) _
 obtain⟨mb,hmb⟩:∃ mb,mb=w.heap.size:=⟨_,rfl⟩
 have hm0:W0.heap[mb]?=some (.cells #[.int .i64 5, .int .i64 f, .int .i64 t, .int .i64 b, .int .i64 vi, .int .i64 la, .int .i64 me, .int .i64 po, .slice sa es.length sc, .int .i64 co, .int .i64 nu, .int .i64 cl, .bool y] 37 (0,0)):=hW0 ▸ hmb ▸ Z0a _ _
 have hN0:=h.grow hB0
 have hmo:own mb=0:=h.wf mb (by omega)
 have t0:=hd_ (Turn.grow (J:=JK K) (own:=own) hB0 h.wf)
 have hcall:=hd_ (Zct c hN0 hok ⟨5,f,t,b,vi,la,me,po,es,co,nu,cl,y⟩ sa sc hl (hp.turn (Turn.grow (J:=JK K) (own:=own) hB0 h.wf) (jk0 h.r.k16)) hl2 hc0 hc1)
 have hRe:s.hears ⟨5,f,t,b,vi,la,me,po,es,co,nu,cl,y⟩=s.append ⟨5,f,t,b,vi,la,me,po,es,co,nu,cl,y⟩:=rfl
 rw [hRe]
 obtain⟨R,hR⟩:∃ R,s.append ⟨5,f,t,b,vi,la,me,po,es,co,nu,cl,y⟩=R:=⟨_,rfl⟩
 rw [hR] at hcall ⊢
 have m0:=Z00 hm0 0
 have m1:=Z00 hm0 1
 have m2:=Z00 hm0 2
 have m3:=Z00 hm0 3
 have m4:=Z00 hm0 4
 have m5:=Z00 hm0 5
 have m6:=Z00 hm0 6
 have m7:=Z00 hm0 7
 have m8:=Z00 hm0 8
 have m9:=Z00 hm0 9
 have m10:=Z00 hm0 10
 have m11:=Z00 hm0 11
 have m12:=Z00 hm0 12
 simp only [List.getElem?_toArray,List.getElem?_cons_zero,List.getElem?_cons_succ] at m0 m1 m2 m3 m4 m5 m6 m7 m8 m9 m10 m11 m12
 have lm0:=Z04 hm0
 clear hR hRe
 replace hm0:=hd_ hm0
 replace hN0:=hd_ hN0
 replace hB0:=hd_ hB0
 go_enter Tryz.func118,Tryz.ntmps118
 go_upto_region 1 with (fail)
 rw [← hW0,← hmb]
 replace hW0:=hd_ hW0
 replace h:=hd_ h
 replace hmb:=hd_ hmb
 go_wp2_with fail
 refine hcall.out.mono ?_
 rintro r w1 ⟨rfl,hst⟩
 have hst2:=hd_ (hst.after (.refl a) t0.out)
 clear hst hcall
 go_wp2
 go_end0
 exact⟨rfl,hst2.out⟩
end
end
end Go.Proofs.YtbonjbokofkafaaGreat
