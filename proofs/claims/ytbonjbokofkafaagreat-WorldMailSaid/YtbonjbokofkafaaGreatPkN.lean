/- Lemmas of the proof: PkN. -/
import Derived.Test.YtbonjbokofkafaaGreatPkK
import Derived.Test.YtbonjbokofkafaaGreatPkB
namespace Go.Proofs.YtbonjbokofkafaaGreat
set_option linter.unusedVariables false
set_option maxRecDepth 100000
set_option maxHeartbeats 64000000
section
open Go.RowKit
theorem Zef (w:World) (b o o':Nat) (u v:Value) (h:o≠o'):(w.setCell ⟨b,o,none⟩ u).setCell ⟨b,o',none⟩ v=(w.setCell ⟨b,o',none⟩ v).setCell ⟨b,o,none⟩ u:=by
 unfold World.setCell
 simp only
 congr 1
 apply Array.ext
 ·simp
 ·intro i h1 h2
  simp only [Array.getElem_modify]
  by_cases hi:b=i
  ·subst hi
   simp only [if_true]
   have hx:b<w.heap.size:=by simpa using h1
   generalize w.heap[b]=x
   cases x<;>simp [Array.setIfInBounds_comm _ _ h]
  ·simp [hi]
section
variable {own:Nat→Nat} {K:Nat} {w:World} {a:NdAt} {s:Nd} {out:List MsS}
theorem Zfz (h:NdO own K w a s out) (u:Int) :
  Calls Tryz.prog 137 #[.pointer (some ⟨a.dk,a.od,none⟩), .int .i64 u] w fun r w'=>(∃ b,r=.returned (.bool b))∧NdO own K w' a { s with dv:=if s.dv<u∧u≤1099511627776 then u else s.dv } out∧Turn (fun o=>o=K∨o=1) own own w w':=by
 by_cases hg:s.dv<u∧u≤1099511627776
 ·rw [if_pos hg]
  refine (Z7c h u hg.1 hg.2).mono ?_
  rintro r w' ⟨rfl,h1,h2⟩
  exact⟨⟨_,rfl⟩,h1,h2⟩
 ·rw [if_neg hg]
  refine (Z7b a.dk a.od s.dv u w h.dv (by omega)).mono ?_
  rintro r w' ⟨rfl,rfl⟩
  exact⟨⟨_,rfl⟩,h, .same (Chg.refl _ _) h.wf⟩
theorem Zat (h:NdO own K w a s out) (hcom0:0≤s.com) (hcom1:s.com≤(s.L.length:Int)) (hcom2:s.L.length≤60) (m:Ms) (sa:Option Addr) (sc:Nat) (hp:pubE own w (.slice sa m.ents.length sc) m.ents) (hc0:0≤m.com) (hc1:m.com≤1000) (hv1:I64 m.view) :
  Calls Tryz.prog 163 #[Z09 a.b,Z0w m (.slice sa m.ents.length sc)] w fun r w'=>r=.returned (.tuple #[])∧Stp own K w a w' (s.take m) (out.map MsS.m):=by
 obtain⟨k,f,t,b,vi,la,me,po,es,co,nu,cl,y⟩:=m
 dsimp only at *
 obtain⟨W0,n0⟩:∃ W,W=w.alloc (.cells #[.int .i64 k, .int .i64 f, .int .i64 t, .int .i64 b, .int .i64 vi, .int .i64 la, .int .i64 me, .int .i64 po, .slice sa es.length sc, .int .i64 co, .int .i64 nu, .int .i64 cl, .bool y] 37):=⟨_,rfl⟩
 have r0:Below w.heap.size w W0:=n0 ▸ (Below.refl _ _).alloc (Nat.le_refl _) _
 obtain⟨mb,q0⟩:∃ mb,mb=w.heap.size:=⟨_,rfl⟩
 have h1:W0.heap[mb]?=some (.cells #[.int .i64 k, .int .i64 f, .int .i64 t, .int .i64 b, .int .i64 vi, .int .i64 la, .int .i64 me, .int .i64 po, .slice sa es.length sc, .int .i64 co, .int .i64 nu, .int .i64 cl, .bool y] 37 (0,0)):=n0 ▸ q0 ▸ Z0a _ _
 have s0:=h.grow r0
 have o1:own mb=0:=h.wf mb (by omega)
 have t0:=hd_ (Turn.grow (J:=JK K) (own:=own) r0 h.wf)
 obtain⟨hv1,hv2⟩:=hv1
 have k0:=h.r.k16
 have a2:=hd_ (hp.turn (Turn.grow (J:=JK K) (own:=own) r0 h.wf) (jk0 k0))
 obtain⟨L,hL⟩:∃ L,L=Z2y es:=⟨_,rfl⟩
 have q1:=Z2d es
 rw [← hL] at q1
 obtain⟨nc,w0⟩:∃ nc,nc=min (max s.com co) (L.length:Int):=⟨_,rfl⟩
 obtain⟨D,hD⟩:∃ D,D=if s.dv<vi∧vi≤1099511627776 then vi else s.dv:=⟨_,rfl⟩
 obtain⟨R,hR⟩:∃ R,s.take ⟨k,f,t,b,vi,la,me,po,es,co,nu,cl,y⟩=R:=⟨_,rfl⟩
 have x0:R={ s with dv:=D,last:=vi,mem:=me,L:=L,com:=nc,heard:=s.clock }:=by rw [← hR,hD,w0,hL];rfl
 rw [hR]
 replace x0:=hd_ x0;replace hL:=hd_ hL;replace hD:=hd_ hD;replace s0:=hd_ s0;replace h1:=hd_ h1;clear r0 hR hp
 go_enter Tryz.func163,Tryz.ntmps163
 go_upto_region 1 with (fail)
 rw [← n0,← q0]
 replace n0:=hd_ n0;replace q0:=hd_ q0;replace h:=hd_ h
 refine Z05 (fun _=>False) (.q 0 (.q 1 (.q 2 (.q 3 (.q 4 (.q 5 (.cut (.l 6 .fin)))))))) (by kernel_rfl) (by kernel_rfl) ?_
 intro w1 b1 c0
 have b0:=s0.out.grow c0
 have u2:=Z01 (F:=fun _=>False) (b:=w1) (fun h=>h) (show w1.cell? ⟨a.b,2,none⟩=some (.pointer (some ⟨a.dk,a.od,none⟩)) from b0.c 2)
 have f1:=b0.lt
 have p0:=Z02 h1.out c0
 have k4:=Z01 (F:=fun _=>False) (b:=w1) (fun h=>h) (show w1.cell? ⟨mb,4,none⟩=some (.int .i64 vi) from Z00 p0 4)
 have o0:=Z04 p0
 have t1':=Turn.grow (J:=JK K) c0 s0.out.wf
 have b2:=hd_ (a2.out.turn t1' (jk0 k0))
 have t1:=hd_ (t0.out.trans t1')
 clear t1';replace p0:=hd_ p0;replace b0:=hd_ b0;clear b1;replace c0:=hd_ c0;iterate 6 (refine Z0n rfl ?_;go_big_quiet_step (fail);refine wpQuiet_nil ?_)
 refine Z0h Z1j ?_;refine Z0j rfl (by kernel_rfl) ?_;intro K1 hK;go_simp
 refine (Zfz b0.out vi).mono ?_
 rintro r w2 ⟨⟨bb,rfl⟩,l0,t2⟩
 rw [← hD.out] at l0
 refine hK _ _ (Z0l t2) ?_
 clear hK K1;refine Z0c ?_
 have t2':=t2.mono (J':=JK K) fun o e=>by unfold JK;omega
 have z1:=hd_ (t2'.pub p0.out (by rw [o1];exact jk0 k0))
 have c2:=hd_ (b2.out.turn t2' (jk0 k0))
 have r1:=hd_ (t1.out.trans t2')
 replace l0:=hd_ l0;clear t2 t2' u2 k4 o0 f1;go_upto_region 2 with (fail)
 refine Z0y (Zf6 a.b [11,12,9]) (.q 0 (.q 1 (.q 2 (.q 3 (.q 4 (.q 5 (.q 6 (.q 7 (.q 8 (.l 9 (.q 10 (.q 11 (.l 12 (.q 13 (.q 14 (.l 15 (.q 16 (.q 17 (.l 18 .fin))))))))))))))))))) (by kernel_rfl) (by kernel_rfl) ?_
 intro w3 x1 v0
 have m0:=l0.out.grow v0
 have j0:=Z02 z1.out v0
 have j1:mb≠a.b:=by have:=h.out.lt;have:=q0.out;omega
 have k4:=Z1d (F:=Zf6 a.b [11,12,9]) (b:=w3) (g:=mb) (o:=4) (fun h=>j1 h.1) (show w3.cell? ⟨mb,4,none⟩=some (.int .i64 vi) from Z00 j0 4)
 have k6:=Z1d (F:=Zf6 a.b [11,12,9]) (b:=w3) (g:=mb) (o:=6) (fun h=>j1 h.1) (show w3.cell? ⟨mb,6,none⟩=some (.int .i64 me) from Z00 j0 6)
 have k8:=Z1d (F:=Zf6 a.b [11,12,9]) (b:=w3) (g:=mb) (o:=8) (fun h=>j1 h.1) (show w3.cell? ⟨mb,8,none⟩=some (.slice sa es.length sc) from Z00 j0 8)
 have t3':=Turn.grow (J:=JK K) v0 l0.out.wf
 have d2:=hd_ (c2.out.turn t3' (jk0 k0))
 have s1:=hd_ (r1.out.trans t3')
 have d1:=m0.lt
 have o0:=Z04 j0
 replace m0:=hd_ m0;replace j0:=hd_ j0;clear t3' x1 v0;iterate 9 (refine Z6l rfl ?_;go_big_quiet_step (fail);refine wpQuiet_nil ?_)
 refine Z4j rfl (by kernel_rfl) ?_;intro K1 hK;go_simp
 refine (Z1e _ es _ d2.out.1).mono ?_
 rintro r w5 ⟨lb,rfl,hlb,i0,f0⟩
 rw [← hL.out] at i0
 have e0:=m0.out.grow f0
 have e1:=e0.lt
 have f2:w5.cell? ⟨a.b,11,none⟩=some (.int .i64 s.last):=e0.c 11
 have g2:w5.cell? ⟨a.b,12,none⟩=some (.int .i64 s.mem):=e0.c 12
 have q9:w5.cell? ⟨a.b,9,none⟩=some (Z09 a.l):=e0.c 9
 have j2:=e0.free 11
 have k2:=e0.free 12
 have z9:=e0.free 9
 obtain⟨own6,k1,t6⟩:=m0.out.newL f0 i0
 obtain⟨hA,tA⟩:=k1.s11 vi
 obtain⟨hB,tB⟩:=hA.s12 me
 have hX:(((w5.setCell ⟨a.b,9,none⟩ (Z09 lb)).setCell ⟨a.b,11,none⟩ (.int .i64 vi)).setCell ⟨a.b,12,none⟩ (.int .i64 me))=(((w5.setCell ⟨a.b,11,none⟩ (.int .i64 vi)).setCell ⟨a.b,12,none⟩ (.int .i64 me)).setCell ⟨a.b,9,none⟩ (Z09 lb)):=by
  rw [Zef w5 a.b 9 11 _ _ (by omega),Zef _ a.b 9 12 _ _ (by omega)]
 have t7:=t6.trans ((tA.mono jkK).trans (tB.mono jkK))
 have p1:=hB
 have t7':=t7
 rw [hX] at hB t7
 have n1:=hd_ (t7.pub j0.out (by rw [o1];exact jk0 k0))
 have l1:=hd_ (s1.out.trans t7)
 replace hB:=hd_ hB;clear hA p1 tA tB t6 t7 t7' k1 hX e0
 refine hK _ _ ((ChgC.refl _ _).on f0) ?_
 clear hK K1;iterate 2 (refine Z6l rfl ?_;go_big_quiet_step (fail);refine wpQuiet_nil ?_)
 refine Z4j rfl (by kernel_rfl) ?_;intro K1 hK;go_simp
 refine hK _ _ (((ChgC.refl _ _).on f0).set ⟨rfl,by simp⟩) ?_
 clear hK K1;iterate 2 (refine Z6l rfl ?_;go_big_quiet_step (fail);refine wpQuiet_nil ?_)
 refine Z4j rfl (by kernel_rfl) ?_;intro K1 hK;go_simp
 refine hK _ _ ((((ChgC.refl _ _).on f0).set ⟨rfl,by simp⟩).set ⟨rfl,by simp⟩) ?_
 clear hK K1;iterate 2 (refine Z6l rfl ?_;go_big_quiet_step (fail);refine wpQuiet_nil ?_)
 refine Z4j rfl (by kernel_rfl) ?_;intro K1 hK;go_simp
 refine hK _ _ (((((ChgC.refl _ _).on f0).set ⟨rfl,by simp⟩).set ⟨rfl,by simp⟩).set ⟨rfl,by simp⟩) ?_
 clear hK K1;refine Z0c ?_
 obtain⟨W7,z0⟩:∃ W7,W7=(((w5.setCell ⟨a.b,11,none⟩ (.int .i64 vi)).setCell ⟨a.b,12,none⟩ (.int .i64 me)).setCell ⟨a.b,9,none⟩ (Z09 lb)):=⟨_,rfl⟩
 rw [← z0] at hB n1 l1 ⊢
 replace z0:=hd_ z0;clear k4 k6 k8 o0 d1 e1 f2 g2 q9 j2 k2 z9 i0;replace f0:=hd_ f0;go_upto_region 3 with (fail)
 refine Z05 (fun _=>False) (.q 0 (.q 1 (.q 2 (.q 3 (.q 4 (.q 5 (.q 6 (.q 7 (.q 8 (.q 9 (.q 10 (.q 11 (.l 12 (.q 13 (.q 14 (.q 15 (.cut (.l 16 .fin)))))))))))))))))) (by kernel_rfl) (by kernel_rfl) ?_
 intro w8 c1 d0
 have a0:=hB.out.grow d0
 have h2:=Z01 (F:=fun _=>False) (b:=w8) (fun h=>h) (show w8.cell? ⟨a.b,10,none⟩=some (.int .i64 s.com) from a0.c 10)
 have g1:=a0.lt
 have u9:=Z01 (F:=fun _=>False) (b:=w8) (fun h=>h) (show w8.cell? ⟨a.b,9,none⟩=some (Z09 lb) from a0.c 9)
 have i1:=Z02 n1.out d0
 have k9:=Z01 (F:=fun _=>False) (b:=w8) (fun h=>h) (show w8.cell? ⟨mb,9,none⟩=some (.int .i64 co) from Z00 i1 9)
 have o0:=Z04 i1
 have e2:w8.cell? ⟨a.b,10,none⟩=some (.int .i64 s.com):=a0.c 10
 have i2:=a0.free 10
 have v1:=hd_ (l1.out.trans (Turn.grow (J:=JK K) d0 hB.out.wf))
 clear i1;replace a0:=hd_ a0;clear c1;replace d0:=hd_ d0;iterate 12 (refine Z0n rfl ?_;go_big_quiet_step (fail);refine wpQuiet_nil ?_)
 refine Z0j rfl (by kernel_rfl) ?_;intro K1 hK;go_simp
 refine (Z0m lb L _ a0.out.r.lg.rd).mono ?_
 rintro r wx ⟨rfl,rfl⟩
 refine hK _ _ (Chg.refl _ _) ?_
 clear hK K1;iterate 3 (refine Z0n rfl ?_;go_big_quiet_step (fail);refine wpQuiet_nil ?_)
 refine Z0h Z1j ?_;refine Z0j rfl (by kernel_rfl) ?_;intro K1 hK;go_simp
 rw [← w0]
 obtain⟨h0,t9⟩:=a0.out.s10 nc
 refine hK _ _ (Z06 (Chg.refl _ _) trivial) ?_
 clear hK K1;refine Z0c ?_
 have m1:=hd_ (v1.out.trans (t9.mono jkK))
 obtain⟨W9,a1⟩:∃ W9,W9=w8.setCell ⟨a.b,10,none⟩ (.int .i64 nc):=⟨_,rfl⟩
 rw [← a1] at h0 m1 ⊢
 replace a1:=hd_ a1;replace w0:=hd_ w0;clear t9 u9 h2 k9 o0 e2 i2 g1
 have q4:W9.cell? ⟨a.b,4,none⟩=some (.int .i64 s.clock):=h0.c 4
 have q5:W9.cell? ⟨a.b,5,none⟩=some (.int .i64 s.heard):=h0.c 5
 have z5:=h0.free 5
 have y1:=h0.lt
 obtain⟨g0,t10⟩:=h0.s5 s.clock
 have y0:=hd_ (m1.out.trans (t10.mono jkK))
 replace g0:=hd_ g0;clear h0 t10;go_wp2
 go_end0
 rw [x0.out]
 exact⟨rfl,own6,{ a with l:=lb },out,g0.out,rfl,⟨rfl,rfl,rfl,rfl,rfl⟩,y0.out⟩
end
end
section
open Go.RowKit
section
variable {own:Nat→Nat} {K:Nat} {w:World} {a:NdAt} {s:Nd} {out:List MsS}
theorem Zg0 (c:Nat) (h:NdO own K w a s out) (hok:Ok c s) (m:Ms) (sa:Option Addr) (sc:Nat) (hp:rdE w (.slice sa m.ents.length sc) m.ents) (hl:m.ents.length≤1000) (hm:0≤m.mem∧m.mem<128) (hv1:I64 m.view) :
  Calls Tryz.prog 202 #[Z09 a.b,Z0w m (.slice sa m.ents.length sc)] w fun r w'=>r=.returned (.bool (s.right m))∧Below w.heap.size w w':=by
 obtain⟨k,f,t,b,vi,la,me,po,es,co,nu,cl,y⟩:=m
 dsimp only at *
 obtain⟨W0,h0⟩:∃ W,W=w.alloc (.cells #[.int .i64 k, .int .i64 f, .int .i64 t, .int .i64 b, .int .i64 vi, .int .i64 la, .int .i64 me, .int .i64 po, .slice sa es.length sc, .int .i64 co, .int .i64 nu, .int .i64 cl, .bool y] 37):=⟨_,rfl⟩
 have g0:Below w.heap.size w W0:=h0 ▸ (Below.refl _ _).alloc (Nat.le_refl _) _
 obtain⟨mb,l0⟩:∃ mb,mb=w.heap.size:=⟨_,rfl⟩
 have j0:W0.heap[mb]?=some (.cells #[.int .i64 k, .int .i64 f, .int .i64 t, .int .i64 b, .int .i64 vi, .int .i64 la, .int .i64 me, .int .i64 po, .slice sa es.length sc, .int .i64 co, .int .i64 nu, .int .i64 cl, .bool y] 37 (0,0)):=h0 ▸ l0 ▸ Z0a _ _
 have n0:=h.grow g0
 have hmo:own mb=0:=h.wf mb (by omega)
 have t0:=hd_ (Turn.grow (J:=JK K) (own:=own) g0 h.wf)
 obtain⟨hv1,q0⟩:=hv1
 have w0:=hd_ (hp.grow g0)
 obtain⟨LL,k0⟩:∃ LL,LL=(Z2y es).length:=⟨_,rfl⟩
 have s0:=Z2d es
 obtain⟨c1,h1⟩:∃ c1,(f==Z1y vi s.n)=c1:=⟨_,rfl⟩
 obtain⟨c2,h2⟩:∃ c2,Z2x me s.n=c2:=⟨_,rfl⟩
 obtain⟨c3,h3⟩:∃ c3,Z18 me.toNat f=c3:=⟨_,rfl⟩
 obtain⟨c4,h4⟩:∃ c4,Z18 me.toNat s.id=c4:=⟨_,rfl⟩
 obtain⟨c5,h5⟩:∃ c5,(((Z2y es).length:Int)==(es.length:Int))=c5:=⟨_,rfl⟩
 obtain⟨c6,h6⟩:∃ c6,decide (co≤(es.length:Int))=c6:=⟨_,rfl⟩
 obtain⟨R,hR⟩:∃ R,s.right ⟨k,f,t,b,vi,la,me,po,es,co,nu,cl,y⟩=R:=⟨_,rfl⟩
 have c0:R=(c1&&c2&&c3&&c4&&c5&&c6):=by
  rw [← hR,← h1,← h2,← h3,← h4,← h5,← h6]
  unfold Nd.right
  congr 2
  rw [Bool.eq_iff_iff]
  simp only [decide_eq_true_eq,beq_iff_eq]
  omega
 rw [hR]
 rw [← k0] at h5 s0
 have p0:=hd_ g0
 replace c0:=hd_ c0;replace k0:=hd_ k0;replace h1:=hd_ h1;replace h2:=hd_ h2;replace h3:=hd_ h3;replace h4:=hd_ h4
 have m6:=Z00 j0 6
 simp only [List.getElem?_toArray,List.getElem?_cons_zero,List.getElem?_cons_succ] at m6
 have y0:=Z04 j0
 replace n0:=hd_ n0;replace j0:=hd_ j0;clear g0 hR hp
 go_enter Tryz.func202,Tryz.ntmps202
 go_upto_region 1 with (fail)
 rw [← h0,← l0]
 replace h0:=hd_ h0;replace l0:=hd_ l0;replace h:=hd_ h;go_upto_region 2 with (fail);clear m6 y0
 refine Z05 (fun _=>False) (.q 0 (.q 1 (.q 2 (.q 3 (.q 4 (.q 5 (.q 6 (.q 7 (.l 8 (.q 9 (.q 10 (.q 11 (.q 12 (.q 13 (.q 14 (.q 15 (.l 16 (.q 17 (.q 18 (.q 19 (.q 20 (.q 21 (.l 22 (.q 23 (.q 24 (.q 25 (.q 26 (.q 27 (.q 28 (.q 29 (.l 30 (.q 31 (.q 32 (.q 33 (.q 34 (.q 37 (.q 38 (.q 39 (.l 35 (.l 36 (.q 40 (.q 41 (.q 42 (.q 43 (.q 44 (.q 45 (.q 46 (.q 47 (.q 48 (.q 49 (.q 50 .fin))))))))))))))))))))))))))))))))))))))))))))))))))) (by kernel_rfl) (by kernel_rfl) ?_
 intro w1 o0 a0
 have b0:=n0.out.grow a0
 have u0:=Z01 (F:=fun _=>False) (b:=w1) (fun h=>h) (show w1.cell? ⟨a.b,0,none⟩=some (.int .i64 s.id) from b0.c 0)
 have u1:=Z01 (F:=fun _=>False) (b:=w1) (fun h=>h) (show w1.cell? ⟨a.b,1,none⟩=some (.int .i64 s.n) from b0.c 1)
 have v0:=b0.lt
 have f0:=Z02 j0.out a0
 have k1:=Z01 (F:=fun _=>False) (b:=w1) (fun h=>h) (show w1.cell? ⟨mb,1,none⟩=some (.int .i64 f) from Z00 f0 1)
 have k4:=Z01 (F:=fun _=>False) (b:=w1) (fun h=>h) (show w1.cell? ⟨mb,4,none⟩=some (.int .i64 vi) from Z00 f0 4)
 have k8:=Z01 (F:=fun _=>False) (b:=w1) (fun h=>h) (show w1.cell? ⟨mb,8,none⟩=some (.slice sa es.length sc) from Z00 f0 8)
 have k9:=Z01 (F:=fun _=>False) (b:=w1) (fun h=>h) (show w1.cell? ⟨mb,9,none⟩=some (.int .i64 co) from Z00 f0 9)
 have hlm:=Z04 f0
 have d0:=hd_ (p0.out.trans (a0.mono p0.out.size))
 have x0:=hd_ (w0.out.grow a0)
 clear f0;replace b0:=hd_ b0;clear o0;replace a0:=hd_ a0
 cases c1
 case false=>
  replace h1:=h1.out
  iterate 8 (refine Z0n rfl ?_;go_big_quiet_step (fail);refine wpQuiet_nil ?_)
  refine Z0j rfl (by kernel_rfl) ?_;intro K1 hK;go_simp
  refine (Z0p vi s.n _ hv1 q0).mono ?_
  rintro r wx ⟨rfl,rfl⟩
  refine hK _ _ (Chg.refl _ _) ?_
  clear hK K1
  repeat (first | (refine Z0n rfl ?_;go_big_quiet_step (fail);refine wpQuiet_nil ?_) | (refine Zh0 rfl (Chg.refl _ _) (by kernel_rfl) ?_;go_simp))
  refine Z0c ?_;go_wp2
  go_ret
  exact⟨Z0b (by rw [c0.out];try simp),d0.out⟩
 replace h1:=h1.out
 iterate 8 (refine Z0n rfl ?_;go_big_quiet_step (fail);refine wpQuiet_nil ?_)
 refine Z0j rfl (by kernel_rfl) ?_;intro K1 hK;go_simp
 refine (Z0p vi s.n _ hv1 q0).mono ?_
 rintro r wx ⟨rfl,rfl⟩
 refine hK _ _ (Chg.refl _ _) ?_
 clear hK K1;iterate 7 (refine Z0n rfl ?_;go_big_quiet_step (fail);refine wpQuiet_nil ?_)
 refine Z0j rfl (by kernel_rfl) ?_;intro K1 hK;go_simp
 refine (Z4x me s.n _).mono ?_
 rintro r wx ⟨rfl,rfl⟩
 rw [h2.out]
 refine hK _ _ (Chg.refl _ _) ?_
 clear hK K1
 cases c2
 case false=>
  repeat (first | (refine Z0n rfl ?_;go_big_quiet_step (fail);refine wpQuiet_nil ?_) | (refine Zh0 rfl (Chg.refl _ _) (by kernel_rfl) ?_;go_simp))
  refine Z0c ?_;go_wp2
  go_ret
  exact⟨Z0b (by rw [c0.out];try simp),d0.out⟩
 iterate 5 (refine Z0n rfl ?_;go_big_quiet_step (fail);refine wpQuiet_nil ?_)
 refine Z0j rfl (by kernel_rfl) ?_;intro K1 hK;go_simp
 refine (Z3g me f _ hm).mono ?_
 rintro r wx ⟨rfl,rfl⟩
 rw [h3.out]
 refine hK _ _ (Chg.refl _ _) ?_
 clear hK K1
 cases c3
 case false=>
  repeat (first | (refine Z0n rfl ?_;go_big_quiet_step (fail);refine wpQuiet_nil ?_) | (refine Zh0 rfl (Chg.refl _ _) (by kernel_rfl) ?_;go_simp))
  refine Z0c ?_;go_wp2
  go_ret
  exact⟨Z0b (by rw [c0.out];try simp),d0.out⟩
 iterate 7 (refine Z0n rfl ?_;go_big_quiet_step (fail);refine wpQuiet_nil ?_)
 refine Z0j rfl (by kernel_rfl) ?_;intro K1 hK;go_simp
 refine (Z3g me s.id _ hm).mono ?_
 rintro r wx ⟨rfl,rfl⟩
 rw [h4.out]
 refine hK _ _ (Chg.refl _ _) ?_
 clear hK K1
 cases c4
 case false=>
  repeat (first | (refine Z0n rfl ?_;go_big_quiet_step (fail);refine wpQuiet_nil ?_) | (refine Zh0 rfl (Chg.refl _ _) (by kernel_rfl) ?_;go_simp))
  refine Z0c ?_;go_wp2
  go_ret
  exact⟨Z0b (by rw [c0.out];try simp),d0.out⟩
 iterate 7 (refine Z0n rfl ?_;go_big_quiet_step (fail);refine wpQuiet_nil ?_)
 refine Z0j rfl (by kernel_rfl) ?_;intro K1 hK;go_simp
 refine (Z1e _ es _ x0.out).mono ?_
 rintro r w5 ⟨lb,rfl,hlb,i0,e0⟩
 refine hK _ _ (.of_below e0) ?_
 clear hK K1;refine Z0j rfl (by kernel_rfl) ?_;intro K1 hK;go_simp
 refine (Z0m lb (Z2y es) _ i0.rd).mono ?_
 rintro r wx ⟨rfl,rfl⟩
 rw [← k0.out]
 refine hK _ _ (.of_below e0) ?_
 clear hK K1
 have m0:=hd_ (d0.out.trans (e0.mono d0.out.size))
 clear i0
 cases c5
 case false=>
  repeat (first | (refine Z0n rfl ?_;go_big_quiet_step (fail);refine wpQuiet_nil ?_) | (refine Zh0 rfl (.of_below e0) (by kernel_rfl) ?_;go_simp))
  refine Z0c ?_;go_wp2
  go_ret
  exact⟨Z0b (by rw [c0.out];try simp),m0.out⟩
 cases c6
 case false=>
  have r0:=of_decide_eq_false h6
  repeat (first | (refine Z0n rfl ?_;go_big_quiet_step (fail);refine wpQuiet_nil ?_) | (refine Zh0 rfl (.of_below e0) (by kernel_rfl) ?_;go_simp))
  refine Z0c ?_;go_wp2
  go_ret
  exact⟨Z0b (by rw [c0.out];try simp),m0.out⟩
 case true=>
  have r0:=of_decide_eq_true h6
  repeat (first | (refine Z0n rfl ?_;go_big_quiet_step (fail);refine wpQuiet_nil ?_) | (refine Zh0 rfl (.of_below e0) (by kernel_rfl) ?_;go_simp))
  refine Z0c ?_;go_wp2
  go_ret
  exact⟨Z0b (by rw [c0.out];try simp),m0.out⟩
end
end
section
open Go.RowKit
section
variable {own:Nat→Nat} {K:Nat} {w:World} {a:NdAt} {s:Nd} {out:List MsS}
theorem xAckB (h:NdO own K w a s out) (b:Nat) (hb:a.b=b) (k num:Int) (hl:out.length≤1000000000) :
  Calls Tryz.prog 164 #[Z09 b, .int .i64 k, .int .i64 num] w fun r w'=>r=.returned (.tuple #[])∧Stp own K w a w' s (out.map MsS.m++[s.ackM k num]):=by
 subst hb;exact Z6r h k num hl
theorem Z80 (c:Nat) (h:NdO own K w a s out) (hok:Ok c s) (m:Ms) (sa:Option Addr) (sc:Nat) (hl:out.length≤1000000) (hp:pubE own w (.slice sa m.ents.length sc) m.ents) (hl2:m.ents.length≤1000) (hm:0≤m.mem∧m.mem<128) (hv1:I64 m.view) (hc0:0≤m.com) (hc1:m.com≤1000) :
  Calls Tryz.prog 166 #[Z09 a.b,Z0w m (.slice sa m.ents.length sc)] w fun r w'=>r=.returned (.tuple #[])∧Stp own K w a w' (s.installed m).1 (out.map MsS.m++(s.installed m).2):=by
 obtain⟨k,f,t,b,vi,la,me,po,es,co,nu,cl,y⟩:=m
 dsimp only at *
 obtain⟨W0,b1⟩:∃ W,W=w.alloc (.cells #[.int .i64 k, .int .i64 f, .int .i64 t, .int .i64 b, .int .i64 vi, .int .i64 la, .int .i64 me, .int .i64 po, .slice sa es.length sc, .int .i64 co, .int .i64 nu, .int .i64 cl, .bool y] 37):=⟨_,rfl⟩
 have j1:Below w.heap.size w W0:=b1 ▸ (Below.refl _ _).alloc (Nat.le_refl _) _
 obtain⟨mb,r1⟩:∃ mb,mb=w.heap.size:=⟨_,rfl⟩
 have b0:W0.heap[mb]?=some (.cells #[.int .i64 k, .int .i64 f, .int .i64 t, .int .i64 b, .int .i64 vi, .int .i64 la, .int .i64 me, .int .i64 po, .slice sa es.length sc, .int .i64 co, .int .i64 nu, .int .i64 cl, .bool y] 37 (0,0)):=b1 ▸ r1 ▸ Z0a _ _
 have a1:=h.grow j1
 have h2:own mb=0:=h.wf mb (by omega)
 have t0:=hd_ (Turn.grow (J:=JK K) (own:=own) j1 h.wf)
 have y0:=h.r.k16
 have j2:=hd_ (hp.turn (Turn.grow (J:=JK K) (own:=own) j1 h.wf) (jk0 y0))
 obtain⟨M,hM⟩:∃ M:Ms,M=⟨k,f,t,b,vi,la,me,po,es,co,nu,cl,y⟩:=⟨_,rfl⟩
 have v1:=hd_ (Zg0 c a1 hok ⟨k,f,t,b,vi,la,me,po,es,co,nu,cl,y⟩ sa sc j2.out.1 hl2 hm hv1)
 obtain⟨R,hR⟩:∃ R,s.installed ⟨k,f,t,b,vi,la,me,po,es,co,nu,cl,y⟩=R:=⟨_,rfl⟩
 have n0:R=(if !s.right M then (s,[])
  else if s.dv≤vi∧s.last<vi then
   let s':={ s.take M with v:=none,mine:=false,pf:=s.pf.drop }
   (s',[s'.ackM f 0])
  else if vi=s.last∧vi=s.dv then
   let s':={ s with heard:=s.clock }
   (s',[s'.ackM f 0])
  else (s,[])):=by rw [← hR,hM];rfl
 rw [hR]
 obtain⟨rg,w0⟩:∃ rg,s.right M=rg:=⟨_,rfl⟩
 rw [hM] at w0
 rw [w0] at v1
 rw [← hM] at w0
 rw [w0] at n0
 replace w0:=hd_ w0;replace n0:=hd_ n0;replace hM:=hd_ hM
 have m0:=Z00 b0 0
 have m1:=Z00 b0 1
 have m2:=Z00 b0 2
 have m3:=Z00 b0 3
 have m4:=Z00 b0 4
 have m5:=Z00 b0 5
 have m6:=Z00 b0 6
 have m7:=Z00 b0 7
 have m8:=Z00 b0 8
 have m9:=Z00 b0 9
 have m10:=Z00 b0 10
 have m11:=Z00 b0 11
 have m12:=Z00 b0 12
 simp only [List.getElem?_toArray,List.getElem?_cons_zero,List.getElem?_cons_succ] at m0 m1 m2 m3 m4 m5 m6 m7 m8 m9 m10 m11 m12
 have y2:=Z04 b0
 replace a1:=hd_ a1;replace b0:=hd_ b0;clear j1 hR hp
 go_enter Tryz.func166,Tryz.ntmps166
 go_upto_region 1 with (fail)
 rw [← b1,← r1]
 replace b1:=hd_ b1;replace r1:=hd_ r1;replace h:=hd_ h;go_wp2_with fail
 refine v1.out.mono ?_
 rintro r w1 ⟨rfl,p1⟩
 have e0:=a1.out.grow p1
 have t1':=Turn.grow (J:=JK K) p1 a1.out.wf
 have t2:=hd_ (j2.out.turn t1' (jk0 y0))
 have b2:=hd_ (t0.out.trans t1')
 have l0:=Z02 b0.out p1
 clear m0 m1 m2 m3 m4 m5 m6 m7 m8 m9 m10 m11 m12 y2 v1 p1 t1'
 cases rg
 case false=>
  have e:R=(s,[]):=by rw [n0.out];rfl
  replace e0:=hd_ e0;replace l0:=hd_ l0;go_wp2
  go_end0
  rw [e]
  refine⟨rfl,?_⟩
  rw [List.append_nil]
  exact e0.out.stp (.refl a) b2.out
 have m1:=Z00 l0 1
 have m4:=Z00 l0 4
 simp only [List.getElem?_toArray,List.getElem?_cons_zero,List.getElem?_cons_succ] at m1 m4
 have z2:=Z04 l0
 have c2:w1.cell? ⟨a.b,2,none⟩=some (.pointer (some ⟨a.dk,a.od,none⟩)):=e0.c 2
 have x0:w1.cell? ⟨a.b,11,none⟩=some (.int .i64 s.last):=e0.c 11
 have x2:=e0.lt
 have c1:=e0.dv
 replace e0:=hd_ e0;replace l0:=hd_ l0;go_upto_region 2 with (fail)
 have k2:=Z07 c2
 have z1:=Z07 x0
 have k4:=Z07 m4
 have HV:Hid (∀ y,Calls Tryz.prog 60 #[.pointer (some ⟨a.dk,a.od,none⟩)] (Z1c w1 y) fun r w'=>r=.returned (.int .i64 s.dv)∧∃ z,w'=Z1c w1 z):=hd_ fun y=>Z0o (Z1m _ _ _ _ (Z07 c1 y))
 go_cut [9] (fun z wx=>z=.bool (decide (s.dv≤vi)&&decide (s.last<vi))∧Below w1.heap.size w1 wx)
 case first=>
  by_cases g1:s.dv≤vi
  ·have g1':decide (s.dv≤vi)=true:=by simpa using g1
   refine Z08 (by kernel_rfl) (by kernel_rfl) ?_
   repeat (go_big_quiet_step (first | (go_at_call 60;exact HV.out _)))
   refine wpQuiet_nil ?_
   intro w3 h1
   have j0:=hd_ (Z0e h1)
   clear h1;go_wp2_with fail
   go_meet
   exact⟨by rw [g1'];simp,j0.out⟩
  ·have g1':decide (s.dv≤vi)=false:=by simpa using g1
   refine Z08 (by kernel_rfl) (by kernel_rfl) ?_
   repeat (go_big_quiet_step (first | (go_at_call 60;exact HV.out _)))
   refine wpQuiet_nil ?_
   intro w3 h1
   have j0:=hd_ (Z0e h1)
   clear h1;go_wp2_with fail
   go_meet
   exact⟨by rw [g1'];simp,j0.out⟩
 case rest=>
  obtain⟨rfl,j0⟩:=hcut
  rename World=>w3
  obtain⟨g,hg⟩:∃ g,(decide (s.dv≤vi)&&decide (s.last<vi))=g:=⟨_,rfl⟩
  rw [hg]
  have v0:g=true↔(s.dv≤vi∧s.last<vi):=by rw [← hg];simp
  replace hg:=hd_ hg
  have f0:=e0.out.grow j0
  have t3':=Turn.grow (J:=JK K) j0 e0.out.wf
  have v2:=hd_ (t2.out.turn t3' (jk0 y0))
  have d2:=hd_ (b2.out.trans t3')
  have a0:=Z02 l0.out j0
  clear j0 t3' k2 k4 z1 m1 m4 z2 c2 x0 x2 c1 HV
  have m0:=Z00 a0 0
  have m1:=Z00 a0 1
  have m2:=Z00 a0 2
  have m3:=Z00 a0 3
  have m4:=Z00 a0 4
  have m5:=Z00 a0 5
  have m6:=Z00 a0 6
  have m7:=Z00 a0 7
  have m8:=Z00 a0 8
  have m9:=Z00 a0 9
  have m10:=Z00 a0 10
  have m11:=Z00 a0 11
  have m12:=Z00 a0 12
  simp only [List.getElem?_toArray,List.getElem?_cons_zero,List.getElem?_cons_succ] at m0 m1 m2 m3 m4 m5 m6 m7 m8 m9 m10 m11 m12
  have a2:=Z04 a0
  have l2:=f0.lt
  cases g
  case true=>
   have e:R=(let s':={ s.take M with v:=none,mine:=false,pf:=s.pf.drop };(s',[s'.ackM f 0])):=by rw [n0.out];show (if s.dv≤vi∧s.last<vi then _ else _)=_;exact if_pos (v0.1 rfl)
   replace e:=hd_ e
   have f2:=hd_ (Zat f0 hok.o0 hok.o1 hok.lg ⟨k,f,t,b,vi,la,me,po,es,co,nu,cl,y⟩ sa sc v2.out hc0 hc1 hv1)
   replace f0:=hd_ f0;replace a0:=hd_ a0;replace v0:=hd_ v0;go_wp2_with fail
   refine f2.out.mono ?_
   rintro r w4 ⟨rfl,own4,a4,o4,h0,i2,e4,t4⟩
   rw [← hM.out] at h0
   obtain⟨s4,y1⟩:∃ s4,s4=s.take M:=⟨_,rfl⟩
   rw [← y1] at h0
   rw [← y1] at e
   have g2:=t4.pub a0.out (by rw [h2];exact jk0 y0)
   have x1:own4 mb=0:=(t4.old mb a2).trans h2
   have e2:=d2.out.trans t4
   clear m0 m1 m2 m3 m4 m5 m6 m7 m8 m9 m10 m11 m12 a2 l2 f2 t4
   have q0:=hd_ e4.b
   have b3:w4.cell? ⟨a.b,17,none⟩=some (Z3f a4.v):=h0.cb q0.out 17
   have c3:w4.cell? ⟨a.b,20,none⟩=some (.bool s4.mine):=h0.cb q0.out 20
   have q2:=h0.free 17
   have r2:=h0.free 20
   have n2:=h0.lt
   rw [q0.out] at q2 r2 n2
   obtain⟨hA,tA⟩:=h0.s17n
   obtain⟨hB,tB⟩:=hA.s20 false
   have g0:=tB.pub (tA.pub g2 (by omega)) (by omega)
   have s0:=e2.trans ((tA.mono jkK).trans (tB.mono jkK))
   obtain⟨W5,p0⟩:∃ W5,W5=((w4.setCell ⟨a4.b,17,none⟩ (.pointer none)).setCell ⟨a4.b,20,none⟩ (.bool false)):=⟨_,rfl⟩
   have c0:NdO own4 K W5 { a4 with v:=none } { s4 with v:=none,mine:=false } o4:=p0 ▸ hB
   replace g0:=hd_ (show W5.heap[mb]?=_ from p0 ▸ g0)
   replace s0:=hd_ (show Turn (JK K) own own4 w W5 from p0 ▸ s0)
   have s2:W5.cell? ⟨a.b,16,none⟩=some (Z09 a4.f):=c0.cb q0.out 16
   have t1:a4.b<W5.heap.size:=c0.lt
   rw [q0.out] at t1 p0
   replace c0:=hd_ c0;clear hA hB tA tB g2 e2;replace h0:=hd_ h0;go_upto_region 5 with (fail)
   rw [← p0]
   replace p0:=hd_ p0;clear b3 c3 q2 r2 n2;go_wp2_with fail
   refine (Zii c0.out).mono ?_
   rintro r w6 ⟨rfl,own6,k1,t6⟩
   have t6:=t6.mono (J':=JK K) fun o e=>by unfold JK;omega
   have q1:=t6.pub g0.out (by rw [x1];exact jk0 y0)
   have l1:=s0.out.trans t6
   have m1:=Z00 q1 1
   simp only [List.getElem?_toArray,List.getElem?_cons_zero,List.getElem?_cons_succ] at m1
   have p2:=Z04 q1
   have lo4:o4.length≤1000000:=by have:=congrArg List.length i2;simp at this;omega
   have z0:=hd_ (xAckB k1 a.b q0.out f 0 (by omega))
   have o2:=k1.lt
   rw [show a4.b=a.b from q0.out] at o2
   replace k1:=hd_ k1;replace q1:=hd_ q1;clear t6 s2 t1;go_wp2_with fail
   refine z0.out.mono ?_
   rintro r w7 ⟨rfl,e1⟩
   have i0:=e1.after (a:=a) ⟨e4.b,e4.dk,e4.od,e4.cs,e4.T⟩ l1
   have f1:=hd_ (show Stp own K w a w7 ({ s4 with v:=none,mine:=false,pf:=s4.pf.drop }:Nd) (out.map MsS.m++[({ s4 with v:=none,mine:=false,pf:=s4.pf.drop }:Nd).ackM f 0]) from by rw [← i2];exact i0)
   have w2:s4.pf=s.pf:=by rw [y1];rfl
   rw [w2] at f1
   clear e1 i0 z0 m1 p2;go_wp2
   go_end0
   rw [e.out]
   exact⟨rfl,f1.out⟩
  have s1:¬ (s.dv≤vi∧s.last<vi):=fun h=>by have:=v0.2 h;cases this
  replace s1:=hd_ s1;replace v0:=hd_ v0
  have c2:w3.cell? ⟨a.b,2,none⟩=some (.pointer (some ⟨a.dk,a.od,none⟩)):=f0.c 2
  have x0:w3.cell? ⟨a.b,11,none⟩=some (.int .i64 s.last):=f0.c 11
  have c1:=f0.dv
  clear m0 m2 m3 m5 m6 m7 m8 m9 m10 m11 m12;replace f0:=hd_ f0;replace a0:=hd_ a0;go_upto_region 7 with (fail)
  have k2:=Z07 c2
  have z1:=Z07 x0
  have k4:=Z07 m4
  have HV:Hid (∀ y,Calls Tryz.prog 60 #[.pointer (some ⟨a.dk,a.od,none⟩)] (Z1c w3 y) fun r w'=>r=.returned (.int .i64 s.dv)∧∃ z,w'=Z1c w3 z):=hd_ fun y=>Z0o (Z1m _ _ _ _ (Z07 c1 y))
  go_cut [45] (fun z wx=>z=.bool (vi==s.last&&vi==s.dv)∧Below w3.heap.size w3 wx)
  case first=>
   by_cases g1:vi=s.last
   ·have g1':(vi==s.last)=true:=by simpa using g1
    replace g1:=hd_ g1
    refine Z08 (by kernel_rfl) (by kernel_rfl) ?_
    repeat (go_big_quiet_step (first | (go_at_call 60;exact HV.out _)))
    refine wpQuiet_nil ?_
    intro w5 i1
    have k0:=hd_ (Z0e i1)
    clear i1;go_wp2_with fail
    go_meet
    exact⟨by rw [g1'];simp,k0.out⟩
   ·have g1':(vi==s.last)=false:=by simpa using g1
    replace g1:=hd_ g1
    refine Z08 (by kernel_rfl) (by kernel_rfl) ?_
    repeat (go_big_quiet_step (first | (go_at_call 60;exact HV.out _)))
    refine wpQuiet_nil ?_
    intro w5 i1
    have k0:=hd_ (Z0e i1)
    clear i1;go_wp2_with fail
    go_meet
    exact⟨by rw [g1'];simp,k0.out⟩
  case rest=>
   obtain⟨rfl,k0⟩:=hcut
   rename World=>w5
   obtain⟨g,hg⟩:∃ g,(vi==s.last&&vi==s.dv)=g:=⟨_,rfl⟩
   rw [hg]
   have d0:g=true↔(vi=s.last∧vi=s.dv):=by rw [← hg];simp
   replace hg:=hd_ hg
   have c0:=f0.out.grow k0
   have t5':=Turn.grow (J:=JK K) k0 f0.out.wf
   have s0:=hd_ (d2.out.trans t5')
   have g0:=Z02 a0.out k0
   clear k0 t5' k2 k4 z1 m1 m4 a2 c2 x0 l2 c1 HV
   cases g
   case false=>
    have r0:¬ (vi=s.last∧vi=s.dv):=fun h=>by have:=d0.2 h;cases this
    have e:R=(s,[]):=by rw [n0.out];show (if s.dv≤vi∧s.last<vi then _ else _)=_;rw [if_neg s1.out,if_neg r0]
    replace e:=hd_ e;replace c0:=hd_ c0;replace g0:=hd_ g0;replace d0:=hd_ d0;replace r0:=hd_ r0;go_wp2
    go_end0
    rw [e.out]
    refine⟨rfl,?_⟩
    rw [List.append_nil]
    exact c0.out.stp (.refl a) s0.out
   have e:R=({ s with heard:=s.clock },[({ s with heard:=s.clock }:Nd).ackM f 0]):=by
    rw [n0.out];show (if s.dv≤vi∧s.last<vi then _ else _)=_
    rw [if_neg s1.out,if_pos (d0.1 rfl)]
   replace e:=hd_ e;replace d0:=hd_ d0
   have m1:=Z00 g0 1
   simp only [List.getElem?_toArray,List.getElem?_cons_zero,List.getElem?_cons_succ] at m1
   have a3:=Z04 g0
   have q4:w5.cell? ⟨a.b,4,none⟩=some (.int .i64 s.clock):=c0.c 4
   have q5:w5.cell? ⟨a.b,5,none⟩=some (.int .i64 s.heard):=c0.c 5
   have z5:=c0.free 5
   have t1:=c0.lt
   obtain⟨hA,tA⟩:=c0.s5 s.clock
   have d1:=tA.pub g0 (by omega)
   have l1:=s0.out.trans (tA.mono jkK)
   obtain⟨W6,n1⟩:∃ W6,W6=(w5.setCell ⟨a.b,5,none⟩ (.int .i64 s.clock)):=⟨_,rfl⟩
   rw [← n1] at hA d1 l1
   replace c0:=hd_ c0;replace g0:=hd_ g0;go_upto_region 9 with (fail)
   rw [← n1]
   replace n1:=hd_ n1;clear m1 q4 q5 z5 t1 a3 tA
   have m1:=Z00 d1 1
   simp only [List.getElem?_toArray,List.getElem?_cons_zero,List.getElem?_cons_succ] at m1
   have p2:=Z04 d1
   have z0:=hd_ (Z6r hA f 0 (by omega))
   have o2:=hA.lt
   replace hA:=hd_ hA;replace d1:=hd_ d1;go_wp2_with fail
   refine z0.out.mono ?_
   rintro r w7 ⟨rfl,e1⟩
   have i0:=hd_ (e1.after (.refl a) l1)
   clear e1 z0;go_wp2
   go_end0
   rw [e.out]
   exact⟨rfl,i0.out⟩
end
end
section
open Go.RowKit
theorem gr_ext {own:Nat→Nat} {w w':World} (wf:∀ c,w.heap.size≤c→own c=0) {j:Nat} (hj:j≠0):∀ k,Gr (Is own j) w w' k→Is (Z5q own w.heap.size w'.heap.size j) j k:=fun k h=>by
 rcases h with h | h
 ·have hk:k<w.heap.size:=Nat.lt_of_not_le fun e=>hj ((wf k e).symm.trans h).symm
  exact (Z3k hk).trans h
 ·exact Z20 (by omega) h.2
section
variable {own:Nat→Nat} {K:Nat} {w:World} {a:NdAt} {s:Nd} {out:List MsS}
theorem ndLPut (h:NdO own K w a s out) (v2:Value) (es:List Ent) (k:Int) (hr2:rdE w v2 es) (hl:s.L.length≤60) :
  Calls Tryz.prog 203 #[Z09 a.l, .int .i64 k,v2] w fun r w'=>r=.returned (.bool (Z6p s.L k es).isSome)∧∃ own',NdO own' K w' a { s with L:=(Z6p s.L k es).getD s.L } out∧Turn (fun o=>o=K+3) own own' w w':=by
 refine (Zfa a.l v2 s.L es k (Is own (K+3)) w h.r.lg hr2 hl).mono ?_
 rintro r w' ⟨rfl,hg,hc⟩
 have hk:=h.r.k16
 have t0:=Turn.ext hc
 exact⟨rfl,_,⟨t0.pub h.blk (by rw [h.r.ob];omega),h.ears,h.r.putL (t0.mono fun o e=>.inr e) (hg.mono (gr_ext h.wf (by omega)))⟩,t0⟩
theorem Zct (c:Nat) (h:NdO own K w a s out) (hok:Ok c s) (m:Ms) (sa:Option Addr) (sc:Nat) (hl:out.length≤1000000) (hp:pubE own w (.slice sa m.ents.length sc) m.ents) (hl2:m.ents.length≤1000) (hc0:0≤m.com) (hc1:m.com≤1000) :
  Calls Tryz.prog 167 #[Z09 a.b,Z0w m (.slice sa m.ents.length sc)] w fun r w'=>r=.returned (.tuple #[])∧Stp own K w a w' (s.append m).1 (out.map MsS.m++(s.append m).2):=by
 obtain⟨k,f,t,b,vi,la,me,po,es,co,nu,cl,y⟩:=m
 dsimp only at *
 obtain⟨W0,z0⟩:∃ W,W=w.alloc (.cells #[.int .i64 k, .int .i64 f, .int .i64 t, .int .i64 b, .int .i64 vi, .int .i64 la, .int .i64 me, .int .i64 po, .slice sa es.length sc, .int .i64 co, .int .i64 nu, .int .i64 cl, .bool y] 37):=⟨_,rfl⟩
 have h1:Below w.heap.size w W0:=z0 ▸ (Below.refl _ _).alloc (Nat.le_refl _) _
 obtain⟨mb,j1⟩:∃ mb,mb=w.heap.size:=⟨_,rfl⟩
 have s0:W0.heap[mb]?=some (.cells #[.int .i64 k, .int .i64 f, .int .i64 t, .int .i64 b, .int .i64 vi, .int .i64 la, .int .i64 me, .int .i64 po, .slice sa es.length sc, .int .i64 co, .int .i64 nu, .int .i64 cl, .bool y] 37 (0,0)):=z0 ▸ j1 ▸ Z0a _ _
 have i0:=h.grow h1
 have f2:own mb=0:=h.wf mb (by omega)
 have t0:=hd_ (Turn.grow (J:=JK K) (own:=own) h1 h.wf)
 have r0:=h.r.k16
 have i2:=hd_ (hp.turn (Turn.grow (J:=JK K) (own:=own) h1 h.wf) (jk0 r0))
 obtain⟨M,hM⟩:∃ M:Ms,M=⟨k,f,t,b,vi,la,me,po,es,co,nu,cl,y⟩:=⟨_,rfl⟩
 obtain⟨R,hR⟩:∃ R,s.append ⟨k,f,t,b,vi,la,me,po,es,co,nu,cl,y⟩=R:=⟨_,rfl⟩
 have x0:R=(if !s.in_||vi != s.last||f != Z1y s.last s.n then (s,[])
  else
   let s':=match Z6p s.L po es with
    | some L=>{ s with L:=L,com:=max s.com (min co L.length) }
    | none=>s
   let s':={ s' with heard:=s.clock }
   (s',[s'.ackM f nu])):=by
  rw [← hR]
  unfold Nd.append
  cases hput:Z6p s.L po es with
  | none=>rfl
  | some L=>rfl
 rw [hR]
 replace x0:=hd_ x0
 have m1:=Z00 s0 1
 have m4:=Z00 s0 4
 simp only [List.getElem?_toArray,List.getElem?_cons_zero,List.getElem?_cons_succ] at m1 m4
 have q2:=Z04 s0
 have hl0:=hok.l0
 have hl1:=hok.l1
 have hd1:=hok.d1
 have b2:=hok.o0
 have c2:=hok.o1
 have a1:=hok.lg
 have c1:W0.cell? ⟨a.b,1,none⟩=some (.int .i64 s.n):=i0.c 1
 have x1:W0.cell? ⟨a.b,11,none⟩=some (.int .i64 s.last):=i0.c 11
 have o2:=i0.lt
 have HI:Hid (∀ y,Calls Tryz.prog 77 #[Z09 a.b] (Z1c W0 y) fun r w'=>r=.returned (.bool s.in_)∧∃ z,w'=Z1c W0 z):=hd_ fun y=>
  Z5l (Z41 own K a s out _ (i0.grow (Z0s W0 y)) ⟨hok.m0,hok.m1⟩)
 have HD:Hid (∀ y,Calls Tryz.prog 89 #[.int .i64 s.last, .int .i64 s.n] (Z1c W0 y) fun r w'=>r=.returned (.int .i64 (Z1y s.last s.n))∧∃ z,w'=Z1c W0 z):=hd_ fun y=>
  Z0o (Z0p s.last s.n _ (by omega) (by omega))
 replace i0:=hd_ i0;replace s0:=hd_ s0;clear h1 hR hp
 go_enter Tryz.func167,Tryz.ntmps167
 go_upto_region 1 with (fail)
 rw [← z0,← j1]
 replace z0:=hd_ z0;replace j1:=hd_ j1;replace h:=hd_ h
 have k1:=Z07 c1
 have l2:=Z07 x1
 have k4:=Z07 m4
 have m2:=Z07 m1
 go_cut [29] (fun z wx=>z=.bool (!s.in_||vi != s.last||f != Z1y s.last s.n)∧Below W0.heap.size W0 wx)
 case first=>
  obtain⟨i,hi⟩:∃ i,s.in_=i:=⟨_,rfl⟩
  rw [hi] at HI
  cases i
  ·refine Z08 (by kernel_rfl) (by kernel_rfl) ?_
   repeat (go_big_quiet_step (first | (go_at_call 77;exact HI.out _) | (go_at_call 89;exact HD.out _)))
   refine wpQuiet_nil ?_
   intro w3 k0
   have g0:=hd_ (Z0e k0)
   clear k0;go_wp2_with fail
   go_meet
   exact⟨by rw [hi];simp,g0.out⟩
  ·by_cases g1:vi=s.last
   ·have g1':(vi != s.last)=false:=by simpa using g1
    replace g1:=hd_ g1
    refine Z08 (by kernel_rfl) (by kernel_rfl) ?_
    repeat (go_big_quiet_step (first | (go_at_call 77;exact HI.out _) | (go_at_call 89;exact HD.out _)))
    refine wpQuiet_nil ?_
    intro w3 k0
    have g0:=hd_ (Z0e k0)
    clear k0;go_wp2_with fail
    go_meet
    exact⟨by rw [hi,g1'];simp,g0.out⟩
   ·have g1':(vi != s.last)=true:=by simpa using g1
    replace g1:=hd_ g1
    refine Z08 (by kernel_rfl) (by kernel_rfl) ?_
    repeat (go_big_quiet_step (first | (go_at_call 77;exact HI.out _) | (go_at_call 89;exact HD.out _)))
    refine wpQuiet_nil ?_
    intro w3 k0
    have g0:=hd_ (Z0e k0)
    clear k0;go_wp2_with fail
    go_meet
    exact⟨by rw [hi,g1'];simp,g0.out⟩
 case rest=>
  obtain⟨rfl,g0⟩:=hcut
  rename World=>w3
  obtain⟨g,hg⟩:∃ g,(!s.in_||vi != s.last||f != Z1y s.last s.n)=g:=⟨_,rfl⟩
  rw [hg]
  rw [hg] at x0
  replace hg:=hd_ hg
  have n0:=i0.out.grow g0
  have t3':=Turn.grow (J:=JK K) g0 i0.out.wf
  have j2:=hd_ (i2.out.turn t3' (jk0 r0))
  have y1:=hd_ (t0.out.trans t3')
  have b1:=Z02 s0.out g0
  clear g0 t3' k1 k4 l2 m2 m1 m4 q2 c1 x1 o2 HI HD
  cases g
  case true=>
   have e:=hd_ (show R=(s,[]) from x0.out)
   replace n0:=hd_ n0;replace b1:=hd_ b1;go_wp2
   refine bodyPost_ret (results_none rfl _ _ _) rfl ?_
   rw [e.out]
   refine⟨rfl,?_⟩
   rw [List.append_nil]
   exact n0.out.stp (.refl a) y1.out
  have e:R=(let s':=match Z6p s.L po es with
    | some L=>{ s with L:=L,com:=max s.com (min co L.length) }
    | none=>s
   let s':={ s' with heard:=s.clock }
   (s',[s'.ackM f nu])):=x0.out
  replace e:=hd_ e;replace n0:=hd_ n0;replace b1:=hd_ b1;go_upto_region 2 with (fail)
  refine Z05 (fun _=>False) (.q 0 (.q 1 (.q 2 (.q 3 (.q 4 (.q 5 (.q 6 (.q 7 (.cut (.l 8 .fin)))))))))) (by kernel_rfl) (by kernel_rfl) ?_
  intro w4 r1 e0
  have d0:=n0.out.grow e0
  have u9:=Z01 (F:=fun _=>False) (b:=w4) (fun h=>h) (show w4.cell? ⟨a.b,9,none⟩=some (Z09 a.l) from d0.c 9)
  have t1:=d0.lt
  have v0:=Z02 b1.out e0
  have k7:=Z01 (F:=fun _=>False) (b:=w4) (fun h=>h) (show w4.cell? ⟨mb,7,none⟩=some (.int .i64 po) from Z00 v0 7)
  have k8:=Z01 (F:=fun _=>False) (b:=w4) (fun h=>h) (show w4.cell? ⟨mb,8,none⟩=some (.slice sa es.length sc) from Z00 v0 8)
  have i1:=Z04 v0
  have t4':=Turn.grow (J:=JK K) e0 n0.out.wf
  have k2:=hd_ (j2.out.turn t4' (jk0 r0))
  have g2:=hd_ (y1.out.trans t4')
  clear t4';replace v0:=hd_ v0;replace d0:=hd_ d0;clear r1;replace e0:=hd_ e0;iterate 8 (refine Z0n rfl ?_;go_big_quiet_step (fail);refine wpQuiet_nil ?_)
  refine Z0h Z1j ?_;refine Z0j rfl (by kernel_rfl) ?_;intro K1 hK;go_simp
  refine (ndLPut d0.out (.slice sa es.length sc) es po k2.out.1 a1).mono ?_
  rintro r w5 ⟨rfl,own5,b0,t5⟩
  refine hK _ _ (Z0l t5) ?_
  clear hK K1;refine Z0c ?_
  have t5':=t5.mono (J':=JK K) fun o e=>by unfold JK;omega
  have d2:=hd_ (t5'.pub v0.out (by rw [f2];exact jk0 r0))
  have p0:own5 mb=0:=(t5'.old mb i1).trans f2
  have z1:=hd_ (g2.out.trans t5')
  clear t5 t5' u9 k7 k8 i1 t1
  obtain⟨P,hP⟩:∃ P,Z6p s.L po es=P:=⟨_,rfl⟩
  rw [hP] at b0 e ⊢
  replace hP:=hd_ hP;replace hM:=hd_ hM
  cases P
  case none=>
   rw [show (none:Option (List Ent)).isSome=false from rfl]
   replace b0:NdO own5 K w5 a s out:=b0
   replace e:=hd_ (show R=({ s with heard:=s.clock },[({ s with heard:=s.clock }:Nd).ackM f nu]) from e.out)
   have q4:w5.cell? ⟨a.b,4,none⟩=some (.int .i64 s.clock):=b0.c 4
   have q5:w5.cell? ⟨a.b,5,none⟩=some (.int .i64 s.heard):=b0.c 5
   have z5:=b0.free 5
   have w1:=b0.lt
   obtain⟨hA,tA⟩:=b0.s5 s.clock
   have p1:=r0
   have c0:=tA.pub d2.out (by rw [p0];omega)
   have y0:=z1.out.trans (tA.mono jkK)
   obtain⟨W8,h0⟩:∃ W8,W8=(w5.setCell ⟨a.b,5,none⟩ (.int .i64 s.clock)):=⟨_,rfl⟩
   rw [← h0] at hA c0 y0
   replace b0:=hd_ b0;go_upto_region 5 with (fail)
   rw [← h0]
   replace h0:=hd_ h0;clear q4 q5 z5 w1 tA
   have m1:=Z00 c0 1
   have m10:=Z00 c0 10
   simp only [List.getElem?_toArray,List.getElem?_cons_zero,List.getElem?_cons_succ] at m1 m10
   have r2:=Z04 c0
   have w0:=hd_ (Z6r hA f nu (by omega))
   have p2:=hA.lt
   replace hA:=hd_ hA;replace c0:=hd_ c0;go_wp2_with fail
   refine w0.out.mono ?_
   rintro r w9 ⟨rfl,f1⟩
   have q0:=hd_ (f1.after (.refl a) y0)
   clear f1 w0;go_wp2
   go_end0
   rw [e.out]
   exact⟨rfl,q0.out⟩
  rename List Ent=>L
  rw [show (some L:Option (List Ent)).isSome=true from rfl]
  replace b0:NdO own5 K w5 a { s with L:=L } out:=b0
  obtain⟨nc,n1⟩:∃ nc,nc=max s.com (min co (L.length:Int)):=⟨_,rfl⟩
  replace e:=hd_ (show R=({ s with L:=L,com:=nc,heard:=s.clock },[({ s with L:=L,com:=nc,heard:=s.clock }:Nd).ackM f nu]) from by rw [n1];exact e.out)
  replace b0:=hd_ b0;go_upto_region 3 with (fail)
  refine Z05 (fun _=>False) (.q 0 (.q 1 (.q 2 (.q 3 (.q 4 (.q 5 (.q 6 (.q 7 (.q 8 (.q 9 (.q 10 (.l 11 (.q 12 (.q 13 (.q 14 (.q 15 (.cut (.l 16 .fin)))))))))))))))))) (by kernel_rfl) (by kernel_rfl) ?_
  intro w6 s1 f0
  have a0:=b0.out.grow f0
  have u9:=Z01 (F:=fun _=>False) (b:=w6) (fun h=>h) (show w6.cell? ⟨a.b,9,none⟩=some (Z09 a.l) from a0.c 9)
  have t2:=Z01 (F:=fun _=>False) (b:=w6) (fun h=>h) (show w6.cell? ⟨a.b,10,none⟩=some (.int .i64 s.com) from a0.c 10)
  have v1:=a0.lt
  have e1:=Z02 d2.out f0
  have n2:=Z01 (F:=fun _=>False) (b:=w6) (fun h=>h) (show w6.cell? ⟨mb,9,none⟩=some (.int .i64 co) from Z00 e1 9)
  have i1:=Z04 e1
  have s2:w6.cell? ⟨a.b,10,none⟩=some (.int .i64 s.com):=a0.c 10
  have v2:=a0.free 10
  have h2:=hd_ (z1.out.trans (Turn.grow (J:=JK K) f0 b0.out.wf))
  replace e1:=hd_ e1;replace a0:=hd_ a0;clear s1;replace f0:=hd_ f0;iterate 11 (refine Z0n rfl ?_;go_big_quiet_step (fail);refine wpQuiet_nil ?_)
  refine Z0j rfl (by kernel_rfl) ?_;intro K1 hK;go_simp
  refine (Z0m a.l L _ a0.out.r.lg.rd).mono ?_
  rintro r wx ⟨rfl,rfl⟩
  refine hK _ _ (Chg.refl _ _) ?_
  clear hK K1;iterate 4 (refine Z0n rfl ?_;go_big_quiet_step (fail);refine wpQuiet_nil ?_)
  refine Z0h Z1j ?_;refine Z0j rfl (by kernel_rfl) ?_;intro K1 hK;go_simp
  rw [← n1]
  obtain⟨j0,t7⟩:=a0.out.s10 nc
  refine hK _ _ (Z06 (Chg.refl _ _) trivial) ?_
  clear hK K1;refine Z0c ?_
  have a2:=hd_ (h2.out.trans (t7.mono jkK))
  have e2:=hd_ (t7.pub e1.out (by rw [p0];omega))
  obtain⟨W7,q1⟩:∃ W7,W7=w6.setCell ⟨a.b,10,none⟩ (.int .i64 nc):=⟨_,rfl⟩
  rw [← q1] at j0 a2 e2 ⊢
  replace q1:=hd_ q1;replace n1:=hd_ n1;clear t7 u9 t2 n2 i1 s2 v2 v1
  have q4:W7.cell? ⟨a.b,4,none⟩=some (.int .i64 s.clock):=j0.c 4
  have q5:W7.cell? ⟨a.b,5,none⟩=some (.int .i64 s.heard):=j0.c 5
  have z5:=j0.free 5
  have w1:=j0.lt
  obtain⟨hA,tA⟩:=j0.s5 s.clock
  have p1:=r0
  have c0:=tA.pub e2.out (by rw [p0];omega)
  have y0:=a2.out.trans (tA.mono jkK)
  obtain⟨W8,h0⟩:∃ W8,W8=(W7.setCell ⟨a.b,5,none⟩ (.int .i64 s.clock)):=⟨_,rfl⟩
  rw [← h0] at hA c0 y0
  replace j0:=hd_ j0;go_upto_region 5 with (fail)
  rw [← h0]
  replace h0:=hd_ h0;clear q4 q5 z5 w1 tA
  have m1:=Z00 c0 1
  have m10:=Z00 c0 10
  simp only [List.getElem?_toArray,List.getElem?_cons_zero,List.getElem?_cons_succ] at m1 m10
  have r2:=Z04 c0
  have w0:=hd_ (Z6r hA f nu (by omega))
  have p2:=hA.lt
  replace hA:=hd_ hA;replace c0:=hd_ c0;go_wp2_with fail
  refine w0.out.mono ?_
  rintro r w9 ⟨rfl,f1⟩
  have q0:=hd_ (f1.after (.refl a) y0)
  clear f1 w0;go_wp2
  go_end0
  rw [e.out]
  exact⟨rfl,q0.out⟩
theorem Zcu (c:Nat) (h:NdO own K w a s out) (hok:Ok c s) (m:Ms) (sa:Option Addr) (sc:Nat) (hk:m.kind=4) (hl:out.length≤1000000) (hp:pubE own w (.slice sa m.ents.length sc) m.ents) (hl2:m.ents.length≤1000) (hm:0≤m.mem∧m.mem<128) (hv1:I64 m.view) (hc0:0≤m.com) (hc1:m.com≤1000) :
  Calls Tryz.prog 118 #[Z09 a.b,Z0w m (.slice sa m.ents.length sc)] w fun r w'=>r=.returned (.tuple #[])∧Stp own K w a w' (s.hears m).1 (out.map MsS.m++(s.hears m).2):=by
 obtain⟨k,f,t,b,vi,la,me,po,es,co,nu,cl,y⟩:=m
 dsimp only at *
 subst hk
 obtain⟨W0,d0⟩:∃ W,W=w.alloc (.cells #[.int .i64 4, .int .i64 f, .int .i64 t, .int .i64 b, .int .i64 vi, .int .i64 la, .int .i64 me, .int .i64 po, .slice sa es.length sc, .int .i64 co, .int .i64 nu, .int .i64 cl, .bool y] 37):=⟨_,rfl⟩
 have c0:Below w.heap.size w W0:=d0 ▸ (Below.refl _ _).alloc (Nat.le_refl _) _
 obtain⟨mb,e0⟩:∃ mb,mb=w.heap.size:=⟨_,rfl⟩
 have a0:W0.heap[mb]?=some (.cells #[.int .i64 4, .int .i64 f, .int .i64 t, .int .i64 b, .int .i64 vi, .int .i64 la, .int .i64 me, .int .i64 po, .slice sa es.length sc, .int .i64 co, .int .i64 nu, .int .i64 cl, .bool y] 37 (0,0)):=d0 ▸ e0 ▸ Z0a _ _
 have f0:=h.grow c0
 have hmo:own mb=0:=h.wf mb (by omega)
 have t0:=hd_ (Turn.grow (J:=JK K) (own:=own) c0 h.wf)
 have b0:=hd_ (Z80 c f0 hok ⟨4,f,t,b,vi,la,me,po,es,co,nu,cl,y⟩ sa sc hl (hp.turn (Turn.grow (J:=JK K) (own:=own) c0 h.wf) (jk0 h.r.k16)) hl2 hm hv1 hc0 hc1)
 have h0:s.hears ⟨4,f,t,b,vi,la,me,po,es,co,nu,cl,y⟩=s.installed ⟨4,f,t,b,vi,la,me,po,es,co,nu,cl,y⟩:=rfl
 rw [h0]
 obtain⟨R,hR⟩:∃ R,s.installed ⟨4,f,t,b,vi,la,me,po,es,co,nu,cl,y⟩=R:=⟨_,rfl⟩
 rw [hR] at b0 ⊢
 have m0:=Z00 a0 0
 have m1:=Z00 a0 1
 have m2:=Z00 a0 2
 have m3:=Z00 a0 3
 have m4:=Z00 a0 4
 have m5:=Z00 a0 5
 have m6:=Z00 a0 6
 have m7:=Z00 a0 7
 have m8:=Z00 a0 8
 have m9:=Z00 a0 9
 have m10:=Z00 a0 10
 have m11:=Z00 a0 11
 have m12:=Z00 a0 12
 simp only [List.getElem?_toArray,List.getElem?_cons_zero,List.getElem?_cons_succ] at m0 m1 m2 m3 m4 m5 m6 m7 m8 m9 m10 m11 m12
 have lm0:=Z04 a0
 clear hR h0;replace a0:=hd_ a0;replace f0:=hd_ f0;replace c0:=hd_ c0
 go_enter Tryz.func118,Tryz.ntmps118
 go_upto_region 1 with (fail)
 rw [← d0,← e0]
 replace d0:=hd_ d0;replace h:=hd_ h;replace e0:=hd_ e0;go_wp2_with fail
 refine b0.out.mono ?_
 rintro r w1 ⟨rfl,i0⟩
 have g0:=hd_ (i0.after (.refl a) t0.out)
 clear i0 b0;go_wp2
 go_end0
 exact⟨rfl,g0.out⟩
theorem Zg1 (c:Nat) (h:NdO own K w a s out) (hok:Ok c s) (m:Ms) (sa:Option Addr) (sc:Nat) (hk:m.kind=5) (hl:out.length≤1000000) (hp:pubE own w (.slice sa m.ents.length sc) m.ents) (hl2:m.ents.length≤1000) (hc0:0≤m.com) (hc1:m.com≤1000) :
  Calls Tryz.prog 118 #[Z09 a.b,Z0w m (.slice sa m.ents.length sc)] w fun r w'=>r=.returned (.tuple #[])∧Stp own K w a w' (s.hears m).1 (out.map MsS.m++(s.hears m).2):=by
 obtain⟨k,f,t,b,vi,la,me,po,es,co,nu,cl,y⟩:=m
 dsimp only at *
 subst hk
 obtain⟨W0,d0⟩:∃ W,W=w.alloc (.cells #[.int .i64 5, .int .i64 f, .int .i64 t, .int .i64 b, .int .i64 vi, .int .i64 la, .int .i64 me, .int .i64 po, .slice sa es.length sc, .int .i64 co, .int .i64 nu, .int .i64 cl, .bool y] 37):=⟨_,rfl⟩
 have c0:Below w.heap.size w W0:=d0 ▸ (Below.refl _ _).alloc (Nat.le_refl _) _
 obtain⟨mb,e0⟩:∃ mb,mb=w.heap.size:=⟨_,rfl⟩
 have a0:W0.heap[mb]?=some (.cells #[.int .i64 5, .int .i64 f, .int .i64 t, .int .i64 b, .int .i64 vi, .int .i64 la, .int .i64 me, .int .i64 po, .slice sa es.length sc, .int .i64 co, .int .i64 nu, .int .i64 cl, .bool y] 37 (0,0)):=d0 ▸ e0 ▸ Z0a _ _
 have f0:=h.grow c0
 have hmo:own mb=0:=h.wf mb (by omega)
 have t0:=hd_ (Turn.grow (J:=JK K) (own:=own) c0 h.wf)
 have b0:=hd_ (Zct c f0 hok ⟨5,f,t,b,vi,la,me,po,es,co,nu,cl,y⟩ sa sc hl (hp.turn (Turn.grow (J:=JK K) (own:=own) c0 h.wf) (jk0 h.r.k16)) hl2 hc0 hc1)
 have h0:s.hears ⟨5,f,t,b,vi,la,me,po,es,co,nu,cl,y⟩=s.append ⟨5,f,t,b,vi,la,me,po,es,co,nu,cl,y⟩:=rfl
 rw [h0]
 obtain⟨R,hR⟩:∃ R,s.append ⟨5,f,t,b,vi,la,me,po,es,co,nu,cl,y⟩=R:=⟨_,rfl⟩
 rw [hR] at b0 ⊢
 have m0:=Z00 a0 0
 have m1:=Z00 a0 1
 have m2:=Z00 a0 2
 have m3:=Z00 a0 3
 have m4:=Z00 a0 4
 have m5:=Z00 a0 5
 have m6:=Z00 a0 6
 have m7:=Z00 a0 7
 have m8:=Z00 a0 8
 have m9:=Z00 a0 9
 have m10:=Z00 a0 10
 have m11:=Z00 a0 11
 have m12:=Z00 a0 12
 simp only [List.getElem?_toArray,List.getElem?_cons_zero,List.getElem?_cons_succ] at m0 m1 m2 m3 m4 m5 m6 m7 m8 m9 m10 m11 m12
 have lm0:=Z04 a0
 clear hR h0;replace a0:=hd_ a0;replace f0:=hd_ f0;replace c0:=hd_ c0
 go_enter Tryz.func118,Tryz.ntmps118
 go_upto_region 1 with (fail)
 rw [← d0,← e0]
 replace d0:=hd_ d0;replace h:=hd_ h;replace e0:=hd_ e0;go_wp2_with fail
 refine b0.out.mono ?_
 rintro r w1 ⟨rfl,i0⟩
 have g0:=hd_ (i0.after (.refl a) t0.out)
 clear i0 b0;go_wp2
 go_end0
 exact⟨rfl,g0.out⟩
end
end
end Go.Proofs.YtbonjbokofkafaaGreat
