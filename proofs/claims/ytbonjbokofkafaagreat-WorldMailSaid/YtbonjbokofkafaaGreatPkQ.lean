/- Lemmas of the proof: PkQ. -/
import Derived.Test.YtbonjbokofkafaaGreatPkN
namespace Go.Proofs.YtbonjbokofkafaaGreat
set_option linter.unusedVariables false
set_option maxRecDepth 100000
set_option maxHeartbeats 64000000
section
open Go.RowKit
def mayJ (me n boot promise:Int) (m:Ms):Bool:=
 m.kind==11&&m.too==me&&m.yes&&m.num==boot&&decide (max promise 1≤m.view)&&m.frm==Z1y m.view n&&Z2x m.mem n&&Z18 m.mem.toNat m.frm&&decide ((Z2y m.ents).length=m.ents.length)&&decide (m.com≤(m.ents.length:Int))
theorem jMay_gen (jb:Nat) (me_ n_ boot_ pr_:Int) (m0:Mg) (got:Bool) (m:Ms) (sa:Option Addr) (sc:Nat) (w:World) (hj:jnO w jb me_ n_ boot_ pr_ m0 got) (hp:rdE w (.slice sa m.ents.length sc) m.ents) (hl:m.ents.length≤1000) (hm:0≤m.mem∧m.mem<128) (hv1:I64 m.view) :
  Calls Tryz.prog 200 #[Z09 jb,Z0w m (.slice sa m.ents.length sc)] w fun r w'=>r=.returned (.bool (mayJ me_ n_ boot_ pr_ m))∧Below w.heap.size w w':=by
 obtain⟨k,f,t,b,vi,la,me,po,es,co,nu,cl,y⟩:=m
 dsimp only at *
 obtain⟨W0,i0⟩:∃ W,W=w.alloc (.cells #[.int .i64 k, .int .i64 f, .int .i64 t, .int .i64 b, .int .i64 vi, .int .i64 la, .int .i64 me, .int .i64 po, .slice sa es.length sc, .int .i64 co, .int .i64 nu, .int .i64 cl, .bool y] 37):=⟨_,rfl⟩
 have n0:Below w.heap.size w W0:=i0 ▸ (Below.refl _ _).alloc (Nat.le_refl _) _
 obtain⟨mb,q0⟩:∃ mb,mb=w.heap.size:=⟨_,rfl⟩
 have c0:W0.heap[mb]?=some (.cells #[.int .i64 k, .int .i64 f, .int .i64 t, .int .i64 b, .int .i64 vi, .int .i64 la, .int .i64 me, .int .i64 po, .slice sa es.length sc, .int .i64 co, .int .i64 nu, .int .i64 cl, .bool y] 37 (0,0)):=i0 ▸ q0 ▸ Z0a _ _
 obtain⟨hv1,n1⟩:=hv1
 have f0:=hj.below n0
 unfold jnO at f0
 have i1:=hd_ (hp.grow n0)
 obtain⟨LL,p0⟩:∃ LL,LL=(Z2y es).length:=⟨_,rfl⟩
 have d1:=Z2d es
 obtain⟨b1,g1⟩:∃ c1,(k != 11)=c1:=⟨_,rfl⟩
 obtain⟨b2,g2⟩:∃ c1,(t != me_)=c1:=⟨_,rfl⟩
 obtain⟨b3,g3⟩:∃ c1,(!y)=c1:=⟨_,rfl⟩
 obtain⟨b4,g4⟩:∃ c1,(nu != boot_)=c1:=⟨_,rfl⟩
 obtain⟨b5,g5⟩:∃ c1,decide (vi<max pr_ 1)=c1:=⟨_,rfl⟩
 obtain⟨b6,g6⟩:∃ c1,(f != Z1y vi n_)=c1:=⟨_,rfl⟩
 obtain⟨c1,h1⟩:∃ c,Z2x me n_=c:=⟨_,rfl⟩
 obtain⟨c2,h2⟩:∃ c,Z18 me.toNat f=c:=⟨_,rfl⟩
 obtain⟨c3,h3⟩:∃ c,(((Z2y es).length:Int)==(es.length:Int))=c:=⟨_,rfl⟩
 obtain⟨c4,h4⟩:∃ c,decide (co≤(es.length:Int))=c:=⟨_,rfl⟩
 obtain⟨R,hR⟩:∃ R,mayJ me_ n_ boot_ pr_ ⟨k,f,t,b,vi,la,me,po,es,co,nu,cl,y⟩=R:=⟨_,rfl⟩
 have d0:R=(!(b1||b2||b3||b4||b5||b6)&&c1&&c2&&c3&&c4):=by
  rw [← hR,← g1,← g2,← g3,← g4,← g5,← g6,← h1,← h2,← h3,← h4]
  unfold mayJ
  rw [Bool.eq_iff_iff]
  simp only [Bool.and_eq_true,Bool.not_eq_true',Bool.or_eq_false_iff,bne_eq_false_iff_eq,beq_iff_eq,decide_eq_true_eq,decide_eq_false_iff_not,Bool.not_eq_false',and_assoc]
  constructor<;>intro h<;>(try omega)<;>(obtain⟨a1,a2,a3,a4,a5,a6,a7,a8,a9,a10⟩:=h;exact⟨a1,a2,a3,a4,by omega,a6,a7,a8,by omega,a10⟩)
 rw [hR]
 rw [← p0] at h3 d1
 have y0:=hd_ n0
 replace d0:=hd_ d0;replace p0:=hd_ p0;replace h1:=hd_ h1;replace h2:=hd_ h2
 have e0:=Z00 f0 0
 have e1:=Z00 f0 1
 have e2:=Z00 f0 2
 have e3:=Z00 f0 3
 simp only [jnC,List.getElem?_toArray,List.getElem?_cons_zero,List.getElem?_cons_succ] at e0 e1 e2 e3
 have m0:=Z00 c0 0
 have m1:=Z00 c0 1
 have m2:=Z00 c0 2
 have m4:=Z00 c0 4
 have m10:=Z00 c0 10
 have m12:=Z00 c0 12
 simp only [List.getElem?_toArray,List.getElem?_cons_zero,List.getElem?_cons_succ] at m0 m1 m2 m4 m10 m12
 have lj:=Z04 f0
 have lm:=Z04 c0
 have HD:Hid (∀ y,Calls Tryz.prog 89 #[.int .i64 vi, .int .i64 n_] (Z1c W0 y) fun r w'=>r=.returned (.int .i64 (Z1y vi n_))∧∃ z,w'=Z1c W0 z):=hd_ fun y=>
  Z0o (Z0p vi n_ _ hv1 n1)
 replace f0:=hd_ f0;replace c0:=hd_ c0;clear n0 hR hp hj
 go_enter Tryz.func200,Tryz.ntmps200
 go_upto_region 1 with (fail)
 rw [← i0,← q0]
 replace i0:=hd_ i0;replace q0:=hd_ q0
 have o1:=Z07 e0
 have p1:=Z07 e1
 have q1:=Z07 e2
 have r1:=Z07 e3
 have s1:=Z07 m0
 have t1:=Z07 m1
 have v1:=Z07 m2
 have w1:=Z07 m4
 have w0:=Z07 m10
 have x0:=Z07 m12
 go_cut [53] (fun z wx=>z=.bool (b1||b2||b3||b4||b5||b6)∧Below W0.heap.size W0 wx)
 case first=>
  cases b1
  case true=>
   refine Z08 (by kernel_rfl) (by kernel_rfl) ?_
   repeat (go_big_quiet_step (first | (go_at_call 89;exact HD.out _)))
   refine wpQuiet_nil ?_
   intro w3 a0
   have b0:=hd_ (Z0e a0)
   clear a0;go_wp2_with fail
   go_meet
   exact⟨by simp,b0.out⟩
  cases b2
  case true=>
   refine Z08 (by kernel_rfl) (by kernel_rfl) ?_
   repeat (go_big_quiet_step (first | (go_at_call 89;exact HD.out _)))
   refine wpQuiet_nil ?_
   intro w3 a0
   have b0:=hd_ (Z0e a0)
   clear a0;go_wp2_with fail
   go_meet
   exact⟨by simp,b0.out⟩
  cases b3
  case true=>
   refine Z08 (by kernel_rfl) (by kernel_rfl) ?_
   repeat (go_big_quiet_step (first | (go_at_call 89;exact HD.out _)))
   refine wpQuiet_nil ?_
   intro w3 a0
   have b0:=hd_ (Z0e a0)
   clear a0;go_wp2_with fail
   go_meet
   exact⟨by simp,b0.out⟩
  cases b4
  case true=>
   refine Z08 (by kernel_rfl) (by kernel_rfl) ?_
   repeat (go_big_quiet_step (first | (go_at_call 89;exact HD.out _)))
   refine wpQuiet_nil ?_
   intro w3 a0
   have b0:=hd_ (Z0e a0)
   clear a0;go_wp2_with fail
   go_meet
   exact⟨by simp,b0.out⟩
  cases b5
  case true=>
   refine Z08 (by kernel_rfl) (by kernel_rfl) ?_
   repeat (go_big_quiet_step (first | (go_at_call 89;exact HD.out _)))
   refine wpQuiet_nil ?_
   intro w3 a0
   have b0:=hd_ (Z0e a0)
   clear a0;go_wp2_with fail
   go_meet
   exact⟨by simp,b0.out⟩
  cases b6
  case true=>
   refine Z08 (by kernel_rfl) (by kernel_rfl) ?_
   repeat (go_big_quiet_step (first | (go_at_call 89;exact HD.out _)))
   refine wpQuiet_nil ?_
   intro w3 a0
   have b0:=hd_ (Z0e a0)
   clear a0;go_wp2_with fail
   go_meet
   exact⟨by simp,b0.out⟩
  case false=>
   refine Z08 (by kernel_rfl) (by kernel_rfl) ?_
   repeat (go_big_quiet_step (first | (go_at_call 89;exact HD.out _)))
   refine wpQuiet_nil ?_
   intro w3 a0
   have b0:=hd_ (Z0e a0)
   clear a0;go_wp2_with fail
   go_meet
   exact⟨by simp,b0.out⟩
 case rest=>
  obtain⟨rfl,b0⟩:=hcut
  rename World=>w3
  obtain⟨g,hg⟩:∃ g,(b1||b2||b3||b4||b5||b6)=g:=⟨_,rfl⟩
  rw [hg]
  rw [hg] at d0
  have r0:=hd_ (y0.out.trans (b0.mono y0.out.size))
  have j1:=hd_ (i1.out.grow b0)
  have k0:=Z02 c0.out b0
  have t0:=Z02 f0.out b0
  clear b0 o1 s1 p1 t1 q1 v1 r1 w1 w0 x0 e0 e1 e2 e3 m0 m1 m2 m4 m10 m12 lj lm HD g1 g2 g3 g4 g5 g6;replace hg:=hd_ hg
  cases g
  case true=>
   go_wp2
   go_ret
   exact⟨Z0b (by rw [d0.out];rfl),r0.out⟩
  have m6:=Z00 k0 6
  simp only [List.getElem?_toArray,List.getElem?_cons_zero,List.getElem?_cons_succ] at m6
  have x1:=Z04 k0
  replace k0:=hd_ k0;replace t0:=hd_ t0;go_upto_region 4 with (fail);clear m6 x1
  refine Z05 (fun _=>False) (.q 0 (.q 1 (.q 2 (.q 3 (.q 4 (.l 5 (.q 6 (.q 7 (.q 8 (.q 9 (.l 10 (.q 11 (.q 12 (.q 13 (.q 14 (.q 17 (.q 18 (.q 19 (.l 15 (.l 16 (.q 20 (.q 21 (.q 22 (.q 23 (.q 24 (.q 25 (.q 26 (.q 27 (.q 28 (.q 29 (.q 30 .fin))))))))))))))))))))))))))))))) (by kernel_rfl) (by kernel_rfl) ?_
  intro w5 f1 g0
  have l0:=Z02 k0.out g0
  have v0:=Z02 t0.out g0
  have k1:=Z01 (F:=fun _=>False) (b:=w5) (fun h=>h) (show w5.cell? ⟨mb,1,none⟩=some (.int .i64 f) from Z00 l0 1)
  have k8:=Z01 (F:=fun _=>False) (b:=w5) (fun h=>h) (show w5.cell? ⟨mb,8,none⟩=some (.slice sa es.length sc) from Z00 l0 8)
  have k9:=Z01 (F:=fun _=>False) (b:=w5) (fun h=>h) (show w5.cell? ⟨mb,9,none⟩=some (.int .i64 co) from Z00 l0 9)
  have u1:=Z01 (F:=fun _=>False) (b:=w5) (fun h=>h) (show w5.cell? ⟨jb,1,none⟩=some (.int .i64 n_) from Z00 v0 1)
  have hlm:=Z04 l0
  have hlj:=Z04 v0
  have o0:=hd_ (r0.out.trans (g0.mono r0.out.size))
  have l1:=hd_ (j1.out.grow g0)
  clear l0 v0 f1;replace g0:=hd_ g0;iterate 5 (refine Z0n rfl ?_;go_big_quiet_step (fail);refine wpQuiet_nil ?_)
  refine Z0j rfl (by kernel_rfl) ?_;intro K1 hK;go_simp
  refine (Z4x me n_ _).mono ?_
  rintro r wx ⟨rfl,rfl⟩
  rw [h1.out]
  refine hK _ _ (Chg.refl _ _) ?_
  clear hK K1
  cases c1
  case false=>
   repeat (first | (refine Z0n rfl ?_;go_big_quiet_step (fail);refine wpQuiet_nil ?_) | (refine Zh0 rfl (Chg.refl _ _) (by kernel_rfl) ?_;go_simp))
   refine Z0c ?_;go_wp2
   go_ret
   exact⟨Z0b (by rw [d0.out];try simp),o0.out⟩
  iterate 4 (refine Z0n rfl ?_;go_big_quiet_step (fail);refine wpQuiet_nil ?_)
  refine Z0j rfl (by kernel_rfl) ?_;intro K1 hK;go_simp
  refine (Z3g me f _ hm).mono ?_
  rintro r wx ⟨rfl,rfl⟩
  rw [h2.out]
  refine hK _ _ (Chg.refl _ _) ?_
  clear hK K1
  cases c2
  case false=>
   repeat (first | (refine Z0n rfl ?_;go_big_quiet_step (fail);refine wpQuiet_nil ?_) | (refine Zh0 rfl (Chg.refl _ _) (by kernel_rfl) ?_;go_simp))
   refine Z0c ?_;go_wp2
   go_ret
   exact⟨Z0b (by rw [d0.out];try simp),o0.out⟩
  iterate 7 (refine Z0n rfl ?_;go_big_quiet_step (fail);refine wpQuiet_nil ?_)
  refine Z0j rfl (by kernel_rfl) ?_;intro K1 hK;go_simp
  refine (Z1e _ es _ l1.out).mono ?_
  rintro r w6 ⟨lb,rfl,hlb,j0,h0⟩
  refine hK _ _ (.of_below h0) ?_
  clear hK K1;refine Z0j rfl (by kernel_rfl) ?_;intro K1 hK;go_simp
  refine (Z0m lb (Z2y es) _ j0.rd).mono ?_
  rintro r wx ⟨rfl,rfl⟩
  rw [← p0.out]
  refine hK _ _ (.of_below h0) ?_
  clear hK K1
  have s0:=hd_ (o0.out.trans (h0.mono o0.out.size))
  clear j0
  cases c3
  case false=>
   repeat (first | (refine Z0n rfl ?_;go_big_quiet_step (fail);refine wpQuiet_nil ?_) | (refine Zh0 rfl (.of_below h0) (by kernel_rfl) ?_;go_simp))
   refine Z0c ?_;go_wp2
   go_ret
   exact⟨Z0b (by rw [d0.out];try simp),s0.out⟩
  cases c4
  case false=>
   have z0:=of_decide_eq_false h4
   repeat (first | (refine Z0n rfl ?_;go_big_quiet_step (fail);refine wpQuiet_nil ?_) | (refine Zh0 rfl (.of_below h0) (by kernel_rfl) ?_;go_simp))
   refine Z0c ?_;go_wp2
   go_ret
   exact⟨Z0b (by rw [d0.out];try simp),s0.out⟩
  case true=>
   have z0:=of_decide_eq_true h4
   repeat (first | (refine Z0n rfl ?_;go_big_quiet_step (fail);refine wpQuiet_nil ?_) | (refine Zh0 rfl (.of_below h0) (by kernel_rfl) ?_;go_simp))
   refine Z0c ?_;go_wp2
   go_ret
   exact⟨Z0b (by rw [d0.out];try simp),s0.out⟩
end
section
open Go.RowKit
theorem jOwn_gen (m:Ms) (sa:Option Addr) (sc:Nat) (w:World) (hp:rdE w (.slice sa m.ents.length sc) m.ents) (hl:m.ents.length≤1000) :
  Calls Tryz.prog 201 #[Z0w m (.slice sa m.ents.length sc)] w fun r w'=>(∃ sa2 sc2,r=.returned (Z0w m (.slice sa2 m.ents.length sc2)))∧Below w.heap.size w w':=by
 obtain⟨k,f,t,b,vi,la,me,po,es,co,nu,cl,y⟩:=m
 dsimp only at *
 obtain⟨W1,k0⟩:∃ W,W=(w.alloc (.cells #[.int .i64 k, .int .i64 f, .int .i64 t, .int .i64 b, .int .i64 vi, .int .i64 la, .int .i64 me, .int .i64 po, .slice sa es.length sc, .int .i64 co, .int .i64 nu, .int .i64 cl, .bool y] 37)).alloc (.cells #[.int .i64 0, .int .i64 0, .int .i64 0, .int .i64 0, .int .i64 0, .int .i64 0, .int .i64 0, .int .i64 0, .slice none 0 0, .int .i64 0, .int .i64 0, .int .i64 0, .bool false] 37):=⟨_,rfl⟩
 have j0:Below w.heap.size w W1:=k0 ▸ ((Below.refl _ _).alloc (Nat.le_refl _) _).alloc (by simp) _
 obtain⟨mb,h0⟩:∃ mb,mb=w.heap.size:=⟨_,rfl⟩
 obtain⟨nb,i0⟩:∃ nb,nb=mb+1:=⟨_,rfl⟩
 have l0:W1.heap[mb]?=some (.cells #[.int .i64 k, .int .i64 f, .int .i64 t, .int .i64 b, .int .i64 vi, .int .i64 la, .int .i64 me, .int .i64 po, .slice sa es.length sc, .int .i64 co, .int .i64 nu, .int .i64 cl, .bool y] 37 (0,0)):=k0 ▸ h0 ▸ Z4l _ (Z0a _ _)
 have n0:W1.heap[nb]?=some (.cells #[.int .i64 0, .int .i64 0, .int .i64 0, .int .i64 0, .int .i64 0, .int .i64 0, .int .i64 0, .int .i64 0, .slice none 0 0, .int .i64 0, .int .i64 0, .int .i64 0, .bool false] 37 (0,0)):=by
  have:=Z0a (w.alloc (.cells #[.int .i64 k, .int .i64 f, .int .i64 t, .int .i64 b, .int .i64 vi, .int .i64 la, .int .i64 me, .int .i64 po, .slice sa es.length sc, .int .i64 co, .int .i64 nu, .int .i64 cl, .bool y] 37)) (.cells #[.int .i64 0, .int .i64 0, .int .i64 0, .int .i64 0, .int .i64 0, .int .i64 0, .int .i64 0, .int .i64 0, .slice none 0 0, .int .i64 0, .int .i64 0, .int .i64 0, .bool false] 37)
  rw [← k0] at this
  simpa [i0,h0] using this
 have f8:=Z00 l0 8
 simp only [List.getElem?_toArray,List.getElem?_cons_zero,List.getElem?_cons_succ] at f8
 have hC:=hd_ (Z2m _ es W1 (hp.grow j0) (by omega))
 have lx1:=Z04 l0
 replace l0:=hd_ l0;replace n0:=hd_ n0;replace j0:=hd_ j0;clear hp
 go_enter Tryz.func201,Tryz.ntmps201
 go_upto_region 1 with (fail)
 rw [← k0,← h0]
 clear k0;replace h0:=hd_ h0
 try rw [← i0]
 replace i0:=hd_ i0;go_wp2_with fail
 refine hC.out.mono ?_
 rintro r w2 ⟨v2,rfl,p0,m0⟩
 obtain⟨sa2,sc2,rfl⟩:=p0.rd.len
 have d0:=Z02 l0.out m0
 have b0:=Z02 n0.out m0
 have o0:=j0.out.trans (m0.mono j0.out.size)
 clear f8 p0 hC
 have f0:=Z00 d0 0
 have f1:=Z00 d0 1
 have f2:=Z00 d0 2
 have f3:=Z00 d0 3
 have f4:=Z00 d0 4
 have f5:=Z00 d0 5
 have f6:=Z00 d0 6
 have f7:=Z00 d0 7
 have f8:=Z00 d0 8
 have f9:=Z00 d0 9
 have f10:=Z00 d0 10
 have f11:=Z00 d0 11
 have f12:=Z00 d0 12
 have g0:=Z00 b0 0
 have g1:=Z00 b0 1
 have g2:=Z00 b0 2
 have g3:=Z00 b0 3
 have g4:=Z00 b0 4
 have g5:=Z00 b0 5
 have g6:=Z00 b0 6
 have g7:=Z00 b0 7
 have g8:=Z00 b0 8
 have g9:=Z00 b0 9
 have g10:=Z00 b0 10
 have g11:=Z00 b0 11
 have g12:=Z00 b0 12
 have z8:=Z03 d0 8
 have t0:=Z03 b0 0
 have t1:=Z03 b0 1
 have t2:=Z03 b0 2
 have t3:=Z03 b0 3
 have t4:=Z03 b0 4
 have t5:=Z03 b0 5
 have t6:=Z03 b0 6
 have t7:=Z03 b0 7
 have t8:=Z03 b0 8
 have t9:=Z03 b0 9
 have t10:=Z03 b0 10
 have t11:=Z03 b0 11
 have t12:=Z03 b0 12
 simp only [List.getElem?_toArray,List.getElem?_cons_zero,List.getElem?_cons_succ] at f0 f1 f2 f3 f4 f5 f6 f7 f8 f9 f10 f11 f12 g0 g1 g2 g3 g4 g5 g6 g7 g8 g9 g10 g11 g12
 have hl2:=Z04 b0
 have hl1:=Z04 d0
 have q0:w.heap.size≤mb:=Nat.le_of_eq h0.out.symm
 have c0:w.heap.size≤nb:=by have:=i0.out;omega
 have e0:∀ a0 a1 a2 a3 a4 a5 a6 a7 a8 a9 a10 a11 a12 a13,Below w.heap.size w ((((((((((((((w2.setCell ⟨mb,8,none⟩ a0).setCell ⟨nb,0,none⟩ a1).setCell ⟨nb,1,none⟩ a2).setCell ⟨nb,2,none⟩ a3).setCell ⟨nb,3,none⟩ a4).setCell ⟨nb,4,none⟩ a5).setCell ⟨nb,5,none⟩ a6).setCell ⟨nb,6,none⟩ a7).setCell ⟨nb,7,none⟩ a8).setCell ⟨nb,8,none⟩ a9).setCell ⟨nb,9,none⟩ a10).setCell ⟨nb,10,none⟩ a11).setCell ⟨nb,11,none⟩ a12).setCell ⟨nb,12,none⟩ a13):=by
  intro a0 a1 a2 a3 a4 a5 a6 a7 a8 a9 a10 a11 a12 a13
  exact (((((((((((((o0.setCell q0 a0).setCell c0 a1).setCell c0 a2).setCell c0 a3).setCell c0 a4).setCell c0 a5).setCell c0 a6).setCell c0 a7).setCell c0 a8).setCell c0 a9).setCell c0 a10).setCell c0 a11).setCell c0 a12).setCell c0 a13
 clear o0 m0;replace e0:=hd_ e0;replace d0:=hd_ d0;replace b0:=hd_ b0
 have hne:nb≠mb:=by have:=i0.out;omega
 go_wp2
 exact bodyPost_ret (v:=Z0w ⟨k,f,t,b,vi,la,me,po,es,co,nu,cl,y⟩ (.slice sa2 es.length sc2)) (by simp [results,Tryz.results201,go_sem,g0,g1,g2,g3,g4,g5,g6,g7,g8,g9,g10,g11,g12]) rfl ⟨⟨sa2,sc2,rfl⟩,e0.out _ _ _ _ _ _ _ _ _ _ _ _ _ _⟩
end
section
open Go.RowKit
theorem Ziy (jb:Nat) (me_ n_ boot_ pr_:Int) (m:Ms) (sa:Option Addr) (sc:Nat) (w:World) (hj:jnO w jb me_ n_ boot_ pr_ mg0 false) (hp:rdE w (.slice sa m.ents.length sc) m.ents) (hl:m.ents.length≤1000) (hm:0≤m.mem∧m.mem<128) (hv1:I64 m.view) :
  Calls Tryz.prog 162 #[Z09 jb,Z0w m (.slice sa m.ents.length sc)] w fun r w'=>r=.returned (.bool (mayJ me_ n_ boot_ pr_ m))∧(mayJ me_ n_ boot_ pr_ m=false→Below w.heap.size w w')∧Chg (fun k=>k=jb) w w':=by
 obtain⟨k,f,t,b,vi,la,me,po,es,co,nu,cl,y⟩:=m
 dsimp only at *
 obtain⟨W0,h0⟩:∃ W,W=w.alloc (.cells #[.int .i64 k, .int .i64 f, .int .i64 t, .int .i64 b, .int .i64 vi, .int .i64 la, .int .i64 me, .int .i64 po, .slice sa es.length sc, .int .i64 co, .int .i64 nu, .int .i64 cl, .bool y] 37):=⟨_,rfl⟩
 have j0:Below w.heap.size w W0:=h0 ▸ (Below.refl _ _).alloc (Nat.le_refl _) _
 obtain⟨mb,k0⟩:∃ mb,mb=w.heap.size:=⟨_,rfl⟩
 have c0:W0.heap[mb]?=some (.cells #[.int .i64 k, .int .i64 f, .int .i64 t, .int .i64 b, .int .i64 vi, .int .i64 la, .int .i64 me, .int .i64 po, .slice sa es.length sc, .int .i64 co, .int .i64 nu, .int .i64 cl, .bool y] 37 (0,0)):=h0 ▸ k0 ▸ Z0a _ _
 have f0:=hj.below j0
 have l0:=hp.grow j0
 have o0:=hd_ (jMay_gen jb me_ n_ boot_ pr_ mg0 false ⟨k,f,t,b,vi,la,me,po,es,co,nu,cl,y⟩ sa sc W0 f0 l0 hl hm hv1)
 obtain⟨R,hR⟩:∃ R,mayJ me_ n_ boot_ pr_ ⟨k,f,t,b,vi,la,me,po,es,co,nu,cl,y⟩=R:=⟨_,rfl⟩
 rw [hR] at o0 ⊢
 have r0:=hd_ j0
 replace l0:=hd_ l0
 have q0:=Z00 f0 17
 simp only [jnC,List.getElem?_toArray,List.getElem?_cons_zero,List.getElem?_cons_succ] at q0
 have m0:=Z00 c0 0
 have m1:=Z00 c0 1
 have m2:=Z00 c0 2
 have m3:=Z00 c0 3
 have m4:=Z00 c0 4
 have m5:=Z00 c0 5
 have m6:=Z00 c0 6
 have m7:=Z00 c0 7
 have m8:=Z00 c0 8
 have m9:=Z00 c0 9
 have m10:=Z00 c0 10
 have m11:=Z00 c0 11
 have m12:=Z00 c0 12
 simp only [List.getElem?_toArray,List.getElem?_cons_zero,List.getElem?_cons_succ] at m0 m1 m2 m3 m4 m5 m6 m7 m8 m9 m10 m11 m12
 have lj:=Z04 f0
 have lm:=Z04 c0
 replace f0:=hd_ f0;replace c0:=hd_ c0;clear j0 hR hp hj
 go_enter Tryz.func162,Tryz.ntmps162
 go_upto_region 1 with (fail)
 rw [← h0,← k0]
 replace h0:=hd_ h0;replace k0:=hd_ k0;go_wp2_with fail
 refine o0.out.mono ?_
 rintro r w2 ⟨rfl,i0⟩
 have e0:=hd_ (r0.out.trans (i0.mono r0.out.size))
 have s0:=hd_ (l0.out.grow i0)
 have b0:=Z02 c0.out i0
 have g0:=f0.out.below i0
 clear q0 m0 m1 m2 m3 m4 m5 m6 m7 m8 m9 m10 m11 m12 lj lm o0 i0
 cases R
 case false=>
  replace b0:=hd_ b0;replace g0:=hd_ g0;go_wp2
  go_ret
  first | exact⟨rfl,e0.out, .of_below e0.out⟩ | exact⟨rfl,(fun _=>e0.out), .of_below e0.out⟩
 have m0:=Z00 b0 0
 have m1:=Z00 b0 1
 have m2:=Z00 b0 2
 have m3:=Z00 b0 3
 have m4:=Z00 b0 4
 have m5:=Z00 b0 5
 have m6:=Z00 b0 6
 have m7:=Z00 b0 7
 have m8:=Z00 b0 8
 have m9:=Z00 b0 9
 have m10:=Z00 b0 10
 have m11:=Z00 b0 11
 have m12:=Z00 b0 12
 simp only [List.getElem?_toArray,List.getElem?_cons_zero,List.getElem?_cons_succ] at m0 m1 m2 m3 m4 m5 m6 m7 m8 m9 m10 m11 m12
 have lj:=Z04 g0
 have lm:=Z04 b0
 have hO:=hd_ (jOwn_gen ⟨k,f,t,b,vi,la,me,po,es,co,nu,cl,y⟩ sa sc w2 s0.out hl)
 replace b0:=hd_ b0;replace g0:=hd_ g0;go_wp2_with fail
 refine hO.out.mono ?_
 rintro r w3 ⟨⟨c1,d1,rfl⟩,p0⟩
 have a0:=g0.out.below p0
 have n0:=e0.out.trans (p0.mono e0.out.size)
 unfold jnO at a0
 have z4:=Z03 a0 4
 have z5:=Z03 a0 5
 have z6:=Z03 a0 6
 have z7:=Z03 a0 7
 have z8:=Z03 a0 8
 have z9:=Z03 a0 9
 have z10:=Z03 a0 10
 have z11:=Z03 a0 11
 have z12:=Z03 a0 12
 have z13:=Z03 a0 13
 have z14:=Z03 a0 14
 have z15:=Z03 a0 15
 have z16:=Z03 a0 16
 have z17:=Z03 a0 17
 have q4:=Z00 a0 4
 have q5:=Z00 a0 5
 have q6:=Z00 a0 6
 have q7:=Z00 a0 7
 have q8:=Z00 a0 8
 have q9:=Z00 a0 9
 have t0:=Z00 a0 10
 have v0:=Z00 a0 11
 have w0:=Z00 a0 12
 have x0:=Z00 a0 13
 have y0:=Z00 a0 14
 have z0:=Z00 a0 15
 have a1:=Z00 a0 16
 have b1:=Z00 a0 17
 simp only [jnC,List.getElem?_toArray,List.getElem?_cons_zero,List.getElem?_cons_succ] at q4 q5 q6 q7 q8 q9 t0 v0 w0 x0 y0 z0 a1 b1
 have hl3:=Z04 a0
 have d0:Chg (fun k=>k=jb) w ((((((((((((((w3.setCell ⟨jb,4,none⟩ (.int .i64 k)).setCell ⟨jb,5,none⟩ (.int .i64 f)).setCell ⟨jb,6,none⟩ (.int .i64 t)).setCell ⟨jb,7,none⟩ (.int .i64 b)).setCell ⟨jb,8,none⟩ (.int .i64 vi)).setCell ⟨jb,9,none⟩ (.int .i64 la)).setCell ⟨jb,10,none⟩ (.int .i64 me)).setCell ⟨jb,11,none⟩ (.int .i64 po)).setCell ⟨jb,12,none⟩ (.slice c1 es.length d1)).setCell ⟨jb,13,none⟩ (.int .i64 co)).setCell ⟨jb,14,none⟩ (.int .i64 nu)).setCell ⟨jb,15,none⟩ (.int .i64 cl)).setCell ⟨jb,16,none⟩ (.bool y)).setCell ⟨jb,17,none⟩ (.bool true)):=
  (Chg.of_below n0).trans ((show Chg (fun k=>k=jb) w3 _ from Z06 (Z06 (Z06 (Z06 (Z06 (Z06 (Z06 (Z06 (Z06 (Z06 (Z06 (Z06 (Z06 (Z06 (Chg.refl _ _) rfl) rfl) rfl) rfl) rfl) rfl) rfl) rfl) rfl) rfl) rfl) rfl) rfl) rfl).mono fun k _ e=>.inl e)
 clear m0 m1 m2 m3 m4 m5 m6 m7 m8 m9 m10 m11 m12 lj lm hO p0;replace a0:=hd_ a0;replace d0:=hd_ d0;replace n0:=hd_ n0;go_wp2
 go_ret
 exact⟨rfl,(fun h=>by cases h),d0.out⟩
end
section
open Go.RowKit
section
variable {own own':Nat→Nat} {K:Nat} {w w':World} {a:NdAt} {s:Nd} {out:List MsS}
theorem NdO.gotJ (h:NdO own K w a s out) (j:Int) (hj:j<0) (t:Turn (fun o=>o=K+2) own own' w w'):NdO own' K w' a { s with jp:=j } out:=by
 have hk:=h.r.k16
 have r:=h.r
 refine⟨t.pub h.blk (by rw [h.r.ob];omega),h.ears,?_⟩
 exact⟨t.new,hk,(t.old _ r.b_lt).trans r.ob,(t.old _ (Z04 r.dsk)).trans r.odk,r.dsz,Z0g r.dsk t.chg (by rw [r.odk];omega),Z5w t (by omega) r.gm,fun e e2=>absurd e2 (by show ¬ 0≤j;omega),Z5r r.wf t (by omega) (by omega) r.lg,Z5s r.wf t (by omega) (by omega) r.pn,Z5t r.wf t (by omega) (by omega) r.rq,Z5v t (by omega) r.tt,Z5u r.wf t (by omega) (by omega) r.pf,Z28 r.wf t (by omega) (by omega) r.vt,Z29 t (by omega) r.qm,Z1f t (by omega) r.ask,Z1q t (by omega) (by omega) r.out⟩
theorem NdO.s8 (h:NdO own K w a s out) (j:Int):NdO own K (w.setCell ⟨a.b,8,none⟩ (.bool true)) a { s with knows:=true,jp:=j } out∧Turn (fun i=>i=K) own own w (w.setCell ⟨a.b,8,none⟩ (.bool true)):=
 h.set 8 _ (by unfold ndC;rw [List.setIfInBounds_toArray];rfl) rfl h.ears fun r=>⟨r.wf,r.k16,r.ob,r.odk,r.dsz,r.dsk,r.gm,fun e=>(by cases e),r.lg,r.pn,r.rq,r.tt,r.pf,r.vt,r.qm,r.ask,r.out⟩
theorem Zg2 (c:Nat) (h:NdO own K w a s out) (hok:Ok c s) (hkn:s.knows=false) (m:Ms) (sa:Option Addr) (sc:Nat) (hl:out.length≤1000000) (hp:pubE own w (.slice sa m.ents.length sc) m.ents) (hl2:m.ents.length≤1000) (hm:0≤m.mem∧m.mem<128) (hv1:I64 m.view) (hc0:0≤m.com) (hc1:m.com≤1000) :
  Calls Tryz.prog 117 #[Z09 a.b,Z0w m (.slice sa m.ents.length sc)] w fun r w'=>r=.returned (.tuple #[])∧Stp own K w a w' (s.state m).1 (out.map MsS.m++(s.state m).2):=by
 obtain⟨k,f,t,b,vi,la,me,po,es,co,nu,cl,y⟩:=m
 dsimp only at *
 obtain⟨W0,v0⟩:∃ W,W=w.alloc (.cells #[.int .i64 k, .int .i64 f, .int .i64 t, .int .i64 b, .int .i64 vi, .int .i64 la, .int .i64 me, .int .i64 po, .slice sa es.length sc, .int .i64 co, .int .i64 nu, .int .i64 cl, .bool y] 37):=⟨_,rfl⟩
 have b1:Below w.heap.size w W0:=v0 ▸ (Below.refl _ _).alloc (Nat.le_refl _) _
 obtain⟨mb,d1⟩:∃ mb,mb=w.heap.size:=⟨_,rfl⟩
 have n1:W0.heap[mb]?=some (.cells #[.int .i64 k, .int .i64 f, .int .i64 t, .int .i64 b, .int .i64 vi, .int .i64 la, .int .i64 me, .int .i64 po, .slice sa es.length sc, .int .i64 co, .int .i64 nu, .int .i64 cl, .bool y] 37 (0,0)):=v0 ▸ d1 ▸ Z0a _ _
 have r0:=h.grow b1
 have q1:own mb=0:=h.wf mb (by omega)
 have t0:=hd_ (Turn.grow (J:=JK K) (own:=own) b1 h.wf)
 have q0:=h.r.k16
 have p2:=hd_ (hp.turn (Turn.grow (J:=JK K) (own:=own) b1 h.wf) (jk0 q0))
 obtain⟨M,hM⟩:∃ M:Ms,M=⟨k,f,t,b,vi,la,me,po,es,co,nu,cl,y⟩:=⟨_,rfl⟩
 obtain⟨l2,l1⟩:=r0.r.jn hkn hok.j0
 have hJ:=fun w' hj' hr'=>Ziy a.j s.id s.n s.boot s.jp ⟨k,f,t,b,vi,la,me,po,es,co,nu,cl,y⟩ sa sc w' hj' hr' hl2 hm hv1
 obtain⟨R,hR⟩:∃ R,s.state ⟨k,f,t,b,vi,la,me,po,es,co,nu,cl,y⟩=R:=⟨_,rfl⟩
 have s0:R=(if !Zie s M then (s,[]) else
   let s':={ s.take M with knows:=true }
   (s',if Z18 s'.mem.toNat s'.id then [s'.ackM f 0] else [])):=by rw [← hR,hM];rfl
 rw [hR]
 obtain⟨rg,z0⟩:∃ rg,Zie s M=rg:=⟨_,rfl⟩
 rw [z0] at s0
 rw [hM] at z0
 simp only [show mayJ s.id s.n s.boot s.jp ⟨k,f,t,b,vi,la,me,po,es,co,nu,cl,y⟩=rg from z0] at hJ
 replace hJ:=hd_ hJ;replace z0:=hd_ z0;replace s0:=hd_ s0;replace hM:=hd_ hM;replace r0:=hd_ r0;replace n1:=hd_ n1;replace l1:=hd_ l1;replace hkn:=hd_ hkn;clear b1 hR hp
 go_enter Tryz.func117,Tryz.ntmps117
 go_upto_region 1 with (fail)
 rw [← v0,← d1]
 replace v0:=hd_ v0;replace d1:=hd_ d1;replace h:=hd_ h
 refine Z05 (fun _=>False) (.q 0 (.q 1 (.q 2 (.q 3 (.q 4 (.cut (.l 5 (.q 6 .fin)))))))) (by kernel_rfl) (by kernel_rfl) ?_
 intro w0 i2 p0
 have h0:=r0.out.grow p0
 have b0:=Z02 n1.out p0
 have u7:=Z01 (F:=fun _=>False) (b:=w0) (fun h=>h) (show w0.cell? ⟨a.b,7,none⟩=some (Z09 a.j) from h0.c 7)
 have k0:=Z01 (F:=fun _=>False) (b:=w0) (fun h=>h) (show w0.cell? ⟨mb,0,none⟩=some (.int .i64 k) from Z00 b0 0)
 have k1:=Z01 (F:=fun _=>False) (b:=w0) (fun h=>h) (show w0.cell? ⟨mb,1,none⟩=some (.int .i64 f) from Z00 b0 1)
 have k2:=Z01 (F:=fun _=>False) (b:=w0) (fun h=>h) (show w0.cell? ⟨mb,2,none⟩=some (.int .i64 t) from Z00 b0 2)
 have k3:=Z01 (F:=fun _=>False) (b:=w0) (fun h=>h) (show w0.cell? ⟨mb,3,none⟩=some (.int .i64 b) from Z00 b0 3)
 have k4:=Z01 (F:=fun _=>False) (b:=w0) (fun h=>h) (show w0.cell? ⟨mb,4,none⟩=some (.int .i64 vi) from Z00 b0 4)
 have k5:=Z01 (F:=fun _=>False) (b:=w0) (fun h=>h) (show w0.cell? ⟨mb,5,none⟩=some (.int .i64 la) from Z00 b0 5)
 have k6:=Z01 (F:=fun _=>False) (b:=w0) (fun h=>h) (show w0.cell? ⟨mb,6,none⟩=some (.int .i64 me) from Z00 b0 6)
 have k7:=Z01 (F:=fun _=>False) (b:=w0) (fun h=>h) (show w0.cell? ⟨mb,7,none⟩=some (.int .i64 po) from Z00 b0 7)
 have k8:=Z01 (F:=fun _=>False) (b:=w0) (fun h=>h) (show w0.cell? ⟨mb,8,none⟩=some (.slice sa es.length sc) from Z00 b0 8)
 have k9:=Z01 (F:=fun _=>False) (b:=w0) (fun h=>h) (show w0.cell? ⟨mb,9,none⟩=some (.int .i64 co) from Z00 b0 9)
 have r2:=Z01 (F:=fun _=>False) (b:=w0) (fun h=>h) (show w0.cell? ⟨mb,10,none⟩=some (.int .i64 nu) from Z00 b0 10)
 have s2:=Z01 (F:=fun _=>False) (b:=w0) (fun h=>h) (show w0.cell? ⟨mb,11,none⟩=some (.int .i64 cl) from Z00 b0 11)
 have t2:=Z01 (F:=fun _=>False) (b:=w0) (fun h=>h) (show w0.cell? ⟨mb,12,none⟩=some (.bool y) from Z00 b0 12)
 have tw:=Turn.grow (J:=JK K) p0 r0.out.wf
 have d2:=hd_ (p2.out.turn tw (jk0 q0))
 have a2:=hd_ (t0.out.trans tw)
 have n2:=hd_ (l1.out.below p0)
 replace b0:=hd_ b0;replace h0:=hd_ h0;clear i2 tw;replace p0:=hd_ p0
 repeat (refine Z0n rfl ?_;go_big_quiet_step (fail);refine wpQuiet_nil ?_)
 refine Z0h Z1j ?_;refine Z0j rfl (by kernel_rfl) ?_;intro K1 hK;go_simp
 refine (hJ.out w0 n2.out d2.out.1).mono ?_
 rintro r w1 ⟨rfl,i1,c1⟩
 refine hK _ _ (Zit c1) ?_
 clear u7 k0 k1 k2 k3 k4 k5 k6 k7 k8 k9 r2 s2 t2 hJ hK K1
 cases rg
 case false=>
  have h1:=i1 rfl
  have e:R=(s,[]):=by rw [s0.out];rfl
  have f1:=hd_ (a2.out.trans (Turn.grow (J:=JK K) h1 h0.out.wf))
  have n0:=hd_ (h0.out.grow h1)
  clear i1 c1 h1;refine Z0n rfl ?_;go_big_quiet_step (fail);refine wpQuiet_nil ?_;refine Z0c ?_;go_wp2
  refine bodyPost_ret (results_none rfl _ _ _) rfl ?_
  refine⟨rfl,?_⟩
  have:=n0.out.stp (.refl a) f1.out
  simpa [e] using this
 have t1:Turn (fun o=>o=K+2) own own w0 w1:=.same (c1.mono fun k _ e=>by rw [show k=a.j from e];exact l2) h0.out.wf
 have t1':=t1.mono (J':=JK K) fun o e=>by unfold JK;omega
 have q2:=hd_ (d2.out.turn t1' (jk0 q0))
 have f1:=hd_ (a2.out.trans t1')
 have a0:=t1'.pub b0.out (by rw [q1];exact jk0 q0)
 have n0:=h0.out.gotJ (-1) (by omega) t1
 clear i1 c1 t1 t1'
 have m0:=Z00 a0 0
 have m1:=Z00 a0 1
 have m2:=Z00 a0 2
 have m3:=Z00 a0 3
 have m4:=Z00 a0 4
 have m5:=Z00 a0 5
 have m6:=Z00 a0 6
 have m7:=Z00 a0 7
 have m8:=Z00 a0 8
 have m9:=Z00 a0 9
 have m10:=Z00 a0 10
 have m11:=Z00 a0 11
 have m12:=Z00 a0 12
 simp only [List.getElem?_toArray,List.getElem?_cons_zero,List.getElem?_cons_succ] at m0 m1 m2 m3 m4 m5 m6 m7 m8 m9 m10 m11 m12
 have g2:=Z04 a0
 have v2:=n0.lt
 have e:R=(let s':={ s.take M with knows:=true };(s',if Z18 s'.mem.toNat s'.id then [s'.ackM f 0] else [])):=by rw [s0.out];rfl
 replace e:=hd_ e
 have z1:=hd_ (Zat n0 hok.o0 hok.o1 hok.lg ⟨k,f,t,b,vi,la,me,po,es,co,nu,cl,y⟩ sa sc q2.out hc0 hc1 hv1)
 replace n0:=hd_ n0;replace a0:=hd_ a0;refine Z0n rfl ?_;go_big_quiet_step (fail);refine wpQuiet_nil ?_;refine Z0c ?_;go_wp2_with fail
 refine z1.out.mono ?_
 rintro r w4 ⟨rfl,own4,a4,o4,e0,y0,e4,t4⟩
 rw [← hM.out] at e0
 obtain⟨s4,e1⟩:∃ s4,s4=({ s with jp := -1 }:Nd).take M:=⟨_,rfl⟩
 rw [← e1] at e0
 have b2:=t4.pub a0.out (by rw [q1];exact jk0 q0)
 have o2:own4 mb=0:=(t4.old mb g2).trans q1
 have x1:=f1.out.trans t4
 clear m0 m1 m2 m3 m4 m5 m6 m7 m8 m9 m10 m11 m12 g2 v2 z1 t4
 have d0:=hd_ e4.b
 have q8:w4.cell? ⟨a.b,8,none⟩=some (.bool s4.knows):=e0.cb d0.out 8
 have z8:=e0.free 8
 have f2:=e0.lt
 rw [d0.out] at z8 f2
 obtain⟨hA,tA⟩:=e0.s8 s.jp
 have p1:=tA.pub b2 (by omega)
 have g1:=x1.trans (tA.mono jkK)
 obtain⟨W5,i0⟩:∃ W5,W5=w4.setCell ⟨a4.b,8,none⟩ (.bool true):=⟨_,rfl⟩
 obtain⟨s5,a1⟩:∃ s5:Nd,s5={ s.take M with knows:=true }:=⟨_,rfl⟩
 have s1:({ s4 with knows:=true,jp:=s.jp }:Nd)=s5:=by rw [e1,a1];rfl
 rw [s1] at hA
 have f0:NdO own4 K W5 a4 s5 o4:=i0 ▸ hA
 replace p1:=hd_ (show W5.heap[mb]?=_ from i0 ▸ p1)
 replace g1:=hd_ (show Turn (JK K) own own4 w W5 from i0 ▸ g1)
 have c0:W5.cell? ⟨a.b,0,none⟩=some (.int .i64 s5.id):=f0.cb d0.out 0
 have h2:W5.cell? ⟨a.b,12,none⟩=some (.int .i64 s5.mem):=f0.cb d0.out 12
 have l0:s5.mem=me:=by rw [a1,hM.out];rfl
 have w2:a4.b<W5.heap.size:=f0.lt
 rw [d0.out] at w2 i0
 have e5:R=(s5,if Z18 s5.mem.toNat s5.id then [s5.ackM f 0] else []):=by rw [e.out,a1]
 replace e5:=hd_ e5;replace a1:=hd_ a1;replace e1:=hd_ e1;replace f0:=hd_ f0;clear hA tA b2 x1 s1 e;replace e0:=hd_ e0;replace l0:=hd_ l0;go_upto_region 4 with (fail)
 rw [← i0]
 replace i0:=hd_ i0;clear q8 z8 f2
 refine Z05 (fun _=>False) (.q 0 (.q 1 (.q 2 (.q 3 (.q 4 (.q 5 (.q 6 (.q 7 (.cut (.l 8 .fin)))))))))) (by kernel_rfl) (by kernel_rfl) ?_
 intro w6 j2 x0
 have g0:=f0.out.grow x0
 have c2:=hd_ (Z02 p1.out x0)
 have y1:=hd_ (g1.out.trans (Turn.grow (J:=JK K) x0 f0.out.wf))
 have u0:=Z01 (F:=fun _=>False) (b:=w6) (fun h=>h) (show w6.cell? ⟨a.b,0,none⟩=some (.int .i64 s5.id) from g0.cb d0.out 0)
 have z2:=Z01 (F:=fun _=>False) (b:=w6) (fun h=>h) (show w6.cell? ⟨a.b,12,none⟩=some (.int .i64 s5.mem) from g0.cb d0.out 12)
 replace g0:=hd_ g0;clear j2 c0 h2;replace x0:=hd_ x0
 repeat (refine Z0n rfl ?_;go_big_quiet_step (fail);refine wpQuiet_nil ?_)
 refine Z0h Z1j ?_;refine Z0j rfl (by kernel_rfl) ?_;intro K1 hK;go_simp
 refine (Z3g s5.mem s5.id _ (by rw [l0.out];exact hm)).mono ?_
 rintro r wx ⟨rfl,rfl⟩
 refine hK _ _ (Chg.refl _ _) ?_
 clear hK K1 u0 z2;refine Z0c ?_
 have lo4:o4.length≤1000000:=by have:=congrArg List.length y0;simp at this;omega
 obtain⟨hh,j1⟩:∃ hh,Z18 s5.mem.toNat s5.id=hh:=⟨_,rfl⟩
 rw [j1] at e5 ⊢
 replace j1:=hd_ j1;replace y0:=hd_ y0
 cases hh
 case false=>
  go_wp2
  go_end0
  rw [e5.out]
  refine⟨rfl,?_⟩
  have:=g0.out.stp e4 y1.out
  rw [y0.out] at this
  simpa using this
 have m1:=Z00 c2.out 1
 simp only [List.getElem?_toArray,List.getElem?_cons_zero,List.getElem?_cons_succ] at m1
 have y2:=Z04 c2.out
 have v1:=hd_ (xAckB g0.out a.b d0.out f 0 (by omega))
 have x2:=g0.out.lt
 rw [show a4.b=a.b from d0.out] at x2
 go_wp2_with fail
 refine v1.out.mono ?_
 rintro r w7 ⟨rfl,e2⟩
 have r1:=hd_ (e2.after (a:=a) ⟨e4.b,e4.dk,e4.od,e4.cs,e4.T⟩ y1.out)
 clear e2 v1 m1 y2;go_wp2
 go_end0
 rw [e5.out]
 refine⟨rfl,?_⟩
 have:=r1.out
 rw [y0.out] at this
 exact this
end
end
end Go.Proofs.YtbonjbokofkafaaGreat
