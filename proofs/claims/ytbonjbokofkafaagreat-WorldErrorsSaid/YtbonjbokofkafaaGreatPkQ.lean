/- Lemmas of the proof: PkQ. -/
import Derived.Test.YtbonjbokofkafaaGreatPkN
namespace Go.Proofs.YtbonjbokofkafaaGreat
set_option linter.unusedVariables false
set_option maxRecDepth 100000
set_option maxHeartbeats 64000000
section
open Go.RowKit
def mayJ (me n boot promise:Int) (m:Ms):Bool:=
 m.kind==11&&m.too==me&&m.yes&&m.num==boot&&decide (max promise 1≤m.view)&&m.frm==Z1y m.view n&&Z2x m.mem n&&Z18 m.mem.toNat m.frm&&decide ((Z2y m.ents).length=m.ents.length)&&decide (m.com≤(m.ents.length:Int))
theorem jMay_gen (jb:Nat) (me_ n_ boot_ pr_:Int) (m0:Mg) (got:Bool) (m:Ms) (sa:Option Addr) (sc:Nat) (w:World) (hj:jnO w jb me_ n_ boot_ pr_ m0 got) (hp:rdE w (.slice sa m.ents.length sc) m.ents) (hl:m.ents.length≤1000) (hm:0≤m.mem∧m.mem<128) (hv1:I64 m.view) :
  Calls Tryz.prog 200 #[Z09 jb,Z0w m (.slice sa m.ents.length sc)] w fun r w'=>r=.returned (.bool (mayJ me_ n_ boot_ pr_ m))∧Below w.heap.size w w':=by
 obtain⟨k,f,t,b,vi,la,me,po,es,co,nu,cl,y⟩:=m
 dsimp only at *
 obtain⟨W0,hW0⟩:∃ W,W=w.alloc (.cells #[.int .i64 k, .int .i64 f, .int .i64 t, .int .i64 b, .int .i64 vi, .int .i64 la, .int .i64 me, .int .i64 po, .slice sa es.length sc, .int .i64 co, .int .i64 nu, .int .i64 cl, .bool y] 37):=⟨_,rfl⟩
 have hB0:Below w.heap.size w W0:=hW0 ▸ (Below.refl _ _).alloc (Nat.le_refl _) _
 obtain⟨mb,hmb⟩:∃ mb,mb=w.heap.size:=⟨_,rfl⟩
 have hm0:W0.heap[mb]?=some (.cells #[.int .i64 k, .int .i64 f, .int .i64 t, .int .i64 b, .int .i64 vi, .int .i64 la, .int .i64 me, .int .i64 po, .slice sa es.length sc, .int .i64 co, .int .i64 nu, .int .i64 cl, .bool y] 37 (0,0)):=hW0 ▸ hmb ▸ Z0a _ _
 obtain⟨hv1,hv2⟩:=hv1
 have hj0:=hj.below hB0
 unfold jnO at hj0
 have hp0:=hd_ (hp.grow hB0)
 obtain⟨LL,hLL⟩:∃ LL,LL=(Z2y es).length:=⟨_,rfl⟩
 have hLl:=Z2d es
 obtain⟨b1,g1⟩:∃ c1,(k != 11)=c1:=⟨_,rfl⟩
 obtain⟨b2,g2⟩:∃ c1,(t != me_)=c1:=⟨_,rfl⟩
 obtain⟨b3,g3⟩:∃ c1,(!y)=c1:=⟨_,rfl⟩
 obtain⟨b4,g4⟩:∃ c1,(nu != boot_)=c1:=⟨_,rfl⟩
 obtain⟨b5,g5⟩:∃ c1,decide (vi<max pr_ 1)=c1:=⟨_,rfl⟩
 obtain⟨b6,g6⟩:∃ c1,(f != Z1y vi n_)=c1:=⟨_,rfl⟩
 obtain⟨c1,h1⟩:∃ c,Z2x me n_=c:=⟨_,rfl⟩
 obtain⟨c2,h2⟩:∃ c,Z18 me.toNat f=c:=⟨_,rfl⟩
 obtain⟨c3,h3⟩:∃ c,(((Z2y es).length:Int)==(es.length:Int))=c:=⟨_,rfl⟩
 obtain⟨c4,h4⟩:∃ c,decide (co≤(es.length:Int))=c:=⟨_,rfl⟩
 obtain⟨R,hR⟩:∃ R,mayJ me_ n_ boot_ pr_ ⟨k,f,t,b,vi,la,me,po,es,co,nu,cl,y⟩=R:=⟨_,rfl⟩
 have hRe:R=(!(b1||b2||b3||b4||b5||b6)&&c1&&c2&&c3&&c4):=by
  rw [← hR,← g1,← g2,← g3,← g4,← g5,← g6,← h1,← h2,← h3,← h4]
  unfold mayJ
  rw [Bool.eq_iff_iff]
  simp only [Bool.and_eq_true,Bool.not_eq_true',Bool.or_eq_false_iff,bne_eq_false_iff_eq,beq_iff_eq,decide_eq_true_eq,decide_eq_false_iff_not,Bool.not_eq_false',and_assoc]
  constructor<;>intro h<;>(try omega)<;>(obtain⟨a1,a2,a3,a4,a5,a6,a7,a8,a9,a10⟩:=h;exact⟨a1,a2,a3,a4,by omega,a6,a7,a8,by omega,a10⟩)
 rw [hR]
 rw [← hLL] at h3 hLl
 have hBB:=hd_ hB0
 replace hRe:=hd_ hRe
 replace hLL:=hd_ hLL
 replace h1:=hd_ h1
 replace h2:=hd_ h2
 have e0:=Z00 hj0 0
 have e1:=Z00 hj0 1
 have e2:=Z00 hj0 2
 have e3:=Z00 hj0 3
 simp only [jnC,List.getElem?_toArray,List.getElem?_cons_zero,List.getElem?_cons_succ] at e0 e1 e2 e3
 have m0:=Z00 hm0 0
 have m1:=Z00 hm0 1
 have m2:=Z00 hm0 2
 have m4:=Z00 hm0 4
 have m10:=Z00 hm0 10
 have m12:=Z00 hm0 12
 simp only [List.getElem?_toArray,List.getElem?_cons_zero,List.getElem?_cons_succ] at m0 m1 m2 m4 m10 m12
 have lj:=Z04 hj0
 have lm:=Z04 hm0
 have HD:Hid (∀ y,Calls Tryz.prog 89 #[.int .i64 vi, .int .i64 n_] (Z1c W0 y) fun r w'=>r=.returned (.int .i64 (Z1y vi n_))∧∃ z,w'=Z1c W0 z):=hd_ fun y=>
  Z0o (Z0p vi n_ _ hv1 hv2)
 replace hj0:=hd_ hj0
 replace hm0:=hd_ hm0
 clear hB0 hR hp hj
 go_enter Tryz.func200,Tryz.ntmps200
 go_upto_region 1 with (fail)
 rw [← hW0,← hmb]
 replace hW0:=hd_ hW0
 replace hmb:=hd_ hmb
 have ke0:=Z07 e0
 have ke1:=Z07 e1
 have ke2:=Z07 e2
 have ke3:=Z07 e3
 have km0:=Z07 m0
 have km1:=Z07 m1
 have km2:=Z07 m2
 have km4:=Z07 m4
 have km10:=Z07 m10
 have km12:=Z07 m12
 go_cut [53] (fun z wx=>z=.bool (b1||b2||b3||b4||b5||b6)∧Below W0.heap.size W0 wx)
 case first=>
  cases b1
  case true=>
   refine Z08 (by kernel_rfl) (by kernel_rfl) ?_
   repeat (go_big_quiet_step (first | (go_at_call 89;exact HD.out _)))
   refine wpQuiet_nil ?_
   intro w3 hw3
   have hb3:=hd_ (Z0e hw3)
   clear hw3
   go_wp2_with fail
   go_meet
   exact⟨by simp,hb3.out⟩
  cases b2
  case true=>
   refine Z08 (by kernel_rfl) (by kernel_rfl) ?_
   repeat (go_big_quiet_step (first | (go_at_call 89;exact HD.out _)))
   refine wpQuiet_nil ?_
   intro w3 hw3
   have hb3:=hd_ (Z0e hw3)
   clear hw3
   go_wp2_with fail
   go_meet
   exact⟨by simp,hb3.out⟩
  cases b3
  case true=>
   refine Z08 (by kernel_rfl) (by kernel_rfl) ?_
   repeat (go_big_quiet_step (first | (go_at_call 89;exact HD.out _)))
   refine wpQuiet_nil ?_
   intro w3 hw3
   have hb3:=hd_ (Z0e hw3)
   clear hw3
   go_wp2_with fail
   go_meet
   exact⟨by simp,hb3.out⟩
  cases b4
  case true=>
   refine Z08 (by kernel_rfl) (by kernel_rfl) ?_
   repeat (go_big_quiet_step (first | (go_at_call 89;exact HD.out _)))
   refine wpQuiet_nil ?_
   intro w3 hw3
   have hb3:=hd_ (Z0e hw3)
   clear hw3
   go_wp2_with fail
   go_meet
   exact⟨by simp,hb3.out⟩
  cases b5
  case true=>
   refine Z08 (by kernel_rfl) (by kernel_rfl) ?_
   repeat (go_big_quiet_step (first | (go_at_call 89;exact HD.out _)))
   refine wpQuiet_nil ?_
   intro w3 hw3
   have hb3:=hd_ (Z0e hw3)
   clear hw3
   go_wp2_with fail
   go_meet
   exact⟨by simp,hb3.out⟩
  cases b6
  case true=>
   refine Z08 (by kernel_rfl) (by kernel_rfl) ?_
   repeat (go_big_quiet_step (first | (go_at_call 89;exact HD.out _)))
   refine wpQuiet_nil ?_
   intro w3 hw3
   have hb3:=hd_ (Z0e hw3)
   clear hw3
   go_wp2_with fail
   go_meet
   exact⟨by simp,hb3.out⟩
  case false=>
   refine Z08 (by kernel_rfl) (by kernel_rfl) ?_
   repeat (go_big_quiet_step (first | (go_at_call 89;exact HD.out _)))
   refine wpQuiet_nil ?_
   intro w3 hw3
   have hb3:=hd_ (Z0e hw3)
   clear hw3
   go_wp2_with fail
   go_meet
   exact⟨by simp,hb3.out⟩
 case rest=>
  obtain⟨rfl,hb3⟩:=hcut
  rename World=>w3
  obtain⟨g,hg⟩:∃ g,(b1||b2||b3||b4||b5||b6)=g:=⟨_,rfl⟩
  rw [hg]
  rw [hg] at hRe
  have hB3:=hd_ (hBB.out.trans (hb3.mono hBB.out.size))
  have hp3:=hd_ (hp0.out.grow hb3)
  have hm3:=Z02 hm0.out hb3
  have hj3:=Z02 hj0.out hb3
  clear hb3 ke0 km0 ke1 km1 ke2 km2 ke3 km4 km10 km12 e0 e1 e2 e3 m0 m1 m2 m4 m10 m12 lj lm HD g1 g2 g3 g4 g5 g6
  replace hg:=hd_ hg
  cases g
  case true=>
   go_wp2
   go_ret
   exact⟨Z0b (by rw [hRe.out];rfl),hB3.out⟩
  have m6:=Z00 hm3 6
  simp only [List.getElem?_toArray,List.getElem?_cons_zero,List.getElem?_cons_succ] at m6
  have lm3:=Z04 hm3
  replace hm3:=hd_ hm3
  replace hj3:=hd_ hj3
  go_upto_region 4 with (fail)
  clear m6 lm3
  refine Z05 (fun _=>False) (.q 0 (.q 1 (.q 2 (.q 3 (.q 4 (.l 5 (.q 6 (.q 7 (.q 8 (.q 9 (.l 10 (.q 11 (.q 12 (.q 13 (.q 14 (.q 17 (.q 18 (.q 19 (.l 15 (.l 16 (.q 20 (.q 21 (.q 22 (.q 23 (.q 24 (.q 25 (.q 26 (.q 27 (.q 28 (.q 29 (.q 30 .fin))))))))))))))))))))))))))))))) (by kernel_rfl) (by kernel_rfl) ?_
  intro w5 hh5 hb5
  have hm5:=Z02 hm3.out hb5
  have hj5:=Z02 hj3.out hb5
  have k1:=Z01 (F:=fun _=>False) (b:=w5) (fun h=>h) (show w5.cell? ⟨mb,1,none⟩=some (.int .i64 f) from Z00 hm5 1)
  have k8:=Z01 (F:=fun _=>False) (b:=w5) (fun h=>h) (show w5.cell? ⟨mb,8,none⟩=some (.slice sa es.length sc) from Z00 hm5 8)
  have k9:=Z01 (F:=fun _=>False) (b:=w5) (fun h=>h) (show w5.cell? ⟨mb,9,none⟩=some (.int .i64 co) from Z00 hm5 9)
  have u1:=Z01 (F:=fun _=>False) (b:=w5) (fun h=>h) (show w5.cell? ⟨jb,1,none⟩=some (.int .i64 n_) from Z00 hj5 1)
  have hlm:=Z04 hm5
  have hlj:=Z04 hj5
  have hB5:=hd_ (hB3.out.trans (hb5.mono hB3.out.size))
  have hp5:=hd_ (hp3.out.grow hb5)
  clear hm5 hj5 hh5
  replace hb5:=hd_ hb5
  iterate 5 (refine Z0n rfl ?_;go_big_quiet_step (fail);refine wpQuiet_nil ?_)
  refine Z0j rfl (by kernel_rfl) ?_
  intro K1 hK
  go_simp
  refine (Z4x me n_ _).mono ?_
  rintro r wx ⟨rfl,rfl⟩
  rw [h1.out]
  refine hK _ _ (Chg.refl _ _) ?_
  clear hK K1
  cases c1
  case false=>
   repeat (first | (refine Z0n rfl ?_;go_big_quiet_step (fail);refine wpQuiet_nil ?_) | (refine Zh0 rfl (Chg.refl _ _) (by kernel_rfl) ?_;go_simp))
   refine Z0c ?_
   go_wp2
   go_ret
   exact⟨Z0b (by rw [hRe.out];try simp),hB5.out⟩
  iterate 4 (refine Z0n rfl ?_;go_big_quiet_step (fail);refine wpQuiet_nil ?_)
  refine Z0j rfl (by kernel_rfl) ?_
  intro K1 hK
  go_simp
  refine (Z3g me f _ hm).mono ?_
  rintro r wx ⟨rfl,rfl⟩
  rw [h2.out]
  refine hK _ _ (Chg.refl _ _) ?_
  clear hK K1
  cases c2
  case false=>
   repeat (first | (refine Z0n rfl ?_;go_big_quiet_step (fail);refine wpQuiet_nil ?_) | (refine Zh0 rfl (Chg.refl _ _) (by kernel_rfl) ?_;go_simp))
   refine Z0c ?_
   go_wp2
   go_ret
   exact⟨Z0b (by rw [hRe.out];try simp),hB5.out⟩
  iterate 7 (refine Z0n rfl ?_;go_big_quiet_step (fail);refine wpQuiet_nil ?_)
  refine Z0j rfl (by kernel_rfl) ?_
  intro K1 hK
  go_simp
  refine (Z1e _ es _ hp5.out).mono ?_
  rintro r w6 ⟨lb,rfl,hlb,hlg6,hb6⟩
  refine hK _ _ (.of_below hb6) ?_
  clear hK K1
  refine Z0j rfl (by kernel_rfl) ?_
  intro K1 hK
  go_simp
  refine (Z0m lb (Z2y es) _ hlg6.rd).mono ?_
  rintro r wx ⟨rfl,rfl⟩
  rw [← hLL.out]
  refine hK _ _ (.of_below hb6) ?_
  clear hK K1
  have hB6:=hd_ (hB5.out.trans (hb6.mono hB5.out.size))
  clear hlg6
  cases c3
  case false=>
   repeat (first | (refine Z0n rfl ?_;go_big_quiet_step (fail);refine wpQuiet_nil ?_) | (refine Zh0 rfl (.of_below hb6) (by kernel_rfl) ?_;go_simp))
   refine Z0c ?_
   go_wp2
   go_ret
   exact⟨Z0b (by rw [hRe.out];try simp),hB6.out⟩
  cases c4
  case false=>
   have h4':=of_decide_eq_false h4
   repeat (first | (refine Z0n rfl ?_;go_big_quiet_step (fail);refine wpQuiet_nil ?_) | (refine Zh0 rfl (.of_below hb6) (by kernel_rfl) ?_;go_simp))
   refine Z0c ?_
   go_wp2
   go_ret
   exact⟨Z0b (by rw [hRe.out];try simp),hB6.out⟩
  case true=>
   have h4':=of_decide_eq_true h4
   repeat (first | (refine Z0n rfl ?_;go_big_quiet_step (fail);refine wpQuiet_nil ?_) | (refine Zh0 rfl (.of_below hb6) (by kernel_rfl) ?_;go_simp))
   refine Z0c ?_
   go_wp2
   go_ret
   exact⟨Z0b (by rw [hRe.out];try simp),hB6.out⟩
end
section
open Go.RowKit
theorem jOwn_gen (m:Ms) (sa:Option Addr) (sc:Nat) (w:World) (hp:rdE w (.slice sa m.ents.length sc) m.ents) (hl:m.ents.length≤1000) :
  Calls Tryz.prog 201 #[Z0w m (.slice sa m.ents.length sc)] w fun r w'=>(∃ sa2 sc2,r=.returned (Z0w m (.slice sa2 m.ents.length sc2)))∧Below w.heap.size w w':=by
 obtain⟨k,f,t,b,vi,la,me,po,es,co,nu,cl,y⟩:=m
 dsimp only at *
 obtain⟨W1,hW1⟩:∃ W,W=(w.alloc (.cells #[.int .i64 k, .int .i64 f, .int .i64 t, .int .i64 b, .int .i64 vi, .int .i64 la, .int .i64 me, .int .i64 po, .slice sa es.length sc, .int .i64 co, .int .i64 nu, .int .i64 cl, .bool y] 37)).alloc (.cells #[.int .i64 0, .int .i64 0, .int .i64 0, .int .i64 0, .int .i64 0, .int .i64 0, .int .i64 0, .int .i64 0, .slice none 0 0, .int .i64 0, .int .i64 0, .int .i64 0, .bool false] 37):=⟨_,rfl⟩
 have hB1:Below w.heap.size w W1:=hW1 ▸ ((Below.refl _ _).alloc (Nat.le_refl _) _).alloc (by simp) _
 obtain⟨mb,hmb⟩:∃ mb,mb=w.heap.size:=⟨_,rfl⟩
 obtain⟨nb,hnb⟩:∃ nb,nb=mb+1:=⟨_,rfl⟩
 have hx1:W1.heap[mb]?=some (.cells #[.int .i64 k, .int .i64 f, .int .i64 t, .int .i64 b, .int .i64 vi, .int .i64 la, .int .i64 me, .int .i64 po, .slice sa es.length sc, .int .i64 co, .int .i64 nu, .int .i64 cl, .bool y] 37 (0,0)):=hW1 ▸ hmb ▸ Z4l _ (Z0a _ _)
 have hy1:W1.heap[nb]?=some (.cells #[.int .i64 0, .int .i64 0, .int .i64 0, .int .i64 0, .int .i64 0, .int .i64 0, .int .i64 0, .int .i64 0, .slice none 0 0, .int .i64 0, .int .i64 0, .int .i64 0, .bool false] 37 (0,0)):=by
  have:=Z0a (w.alloc (.cells #[.int .i64 k, .int .i64 f, .int .i64 t, .int .i64 b, .int .i64 vi, .int .i64 la, .int .i64 me, .int .i64 po, .slice sa es.length sc, .int .i64 co, .int .i64 nu, .int .i64 cl, .bool y] 37)) (.cells #[.int .i64 0, .int .i64 0, .int .i64 0, .int .i64 0, .int .i64 0, .int .i64 0, .int .i64 0, .int .i64 0, .slice none 0 0, .int .i64 0, .int .i64 0, .int .i64 0, .bool false] 37)
  rw [← hW1] at this
  simpa [hnb,hmb] using this
 have f8:=Z00 hx1 8
 simp only [List.getElem?_toArray,List.getElem?_cons_zero,List.getElem?_cons_succ] at f8
 have hC:=hd_ (Z2m _ es W1 (hp.grow hB1) (by omega))
 have lx1:=Z04 hx1
 replace hx1:=hd_ hx1
 replace hy1:=hd_ hy1
 replace hB1:=hd_ hB1
 clear hp
 go_enter Tryz.func201,Tryz.ntmps201
 go_upto_region 1 with (fail)
 rw [← hW1,← hmb]
 clear hW1
 replace hmb:=hd_ hmb
 try rw [← hnb]
 replace hnb:=hd_ hnb
 go_wp2_with fail
 refine hC.out.mono ?_
 rintro r w2 ⟨v2,rfl,ho2,hb2⟩
 obtain⟨sa2,sc2,rfl⟩:=ho2.rd.len
 have hx2:=Z02 hx1.out hb2
 have hy2:=Z02 hy1.out hb2
 have hB2:=hB1.out.trans (hb2.mono hB1.out.size)
 clear f8 ho2 hC
 have f0:=Z00 hx2 0
 have f1:=Z00 hx2 1
 have f2:=Z00 hx2 2
 have f3:=Z00 hx2 3
 have f4:=Z00 hx2 4
 have f5:=Z00 hx2 5
 have f6:=Z00 hx2 6
 have f7:=Z00 hx2 7
 have f8:=Z00 hx2 8
 have f9:=Z00 hx2 9
 have f10:=Z00 hx2 10
 have f11:=Z00 hx2 11
 have f12:=Z00 hx2 12
 have g0:=Z00 hy2 0
 have g1:=Z00 hy2 1
 have g2:=Z00 hy2 2
 have g3:=Z00 hy2 3
 have g4:=Z00 hy2 4
 have g5:=Z00 hy2 5
 have g6:=Z00 hy2 6
 have g7:=Z00 hy2 7
 have g8:=Z00 hy2 8
 have g9:=Z00 hy2 9
 have g10:=Z00 hy2 10
 have g11:=Z00 hy2 11
 have g12:=Z00 hy2 12
 have z8:=Z03 hx2 8
 have t0:=Z03 hy2 0
 have t1:=Z03 hy2 1
 have t2:=Z03 hy2 2
 have t3:=Z03 hy2 3
 have t4:=Z03 hy2 4
 have t5:=Z03 hy2 5
 have t6:=Z03 hy2 6
 have t7:=Z03 hy2 7
 have t8:=Z03 hy2 8
 have t9:=Z03 hy2 9
 have t10:=Z03 hy2 10
 have t11:=Z03 hy2 11
 have t12:=Z03 hy2 12
 simp only [List.getElem?_toArray,List.getElem?_cons_zero,List.getElem?_cons_succ] at f0 f1 f2 f3 f4 f5 f6 f7 f8 f9 f10 f11 f12 g0 g1 g2 g3 g4 g5 g6 g7 g8 g9 g10 g11 g12
 have hl2:=Z04 hy2
 have hl1:=Z04 hx2
 have hge:w.heap.size≤mb:=Nat.le_of_eq hmb.out.symm
 have hge2:w.heap.size≤nb:=by have:=hnb.out;omega
 have hfin:∀ a0 a1 a2 a3 a4 a5 a6 a7 a8 a9 a10 a11 a12 a13,Below w.heap.size w ((((((((((((((w2.setCell ⟨mb,8,none⟩ a0).setCell ⟨nb,0,none⟩ a1).setCell ⟨nb,1,none⟩ a2).setCell ⟨nb,2,none⟩ a3).setCell ⟨nb,3,none⟩ a4).setCell ⟨nb,4,none⟩ a5).setCell ⟨nb,5,none⟩ a6).setCell ⟨nb,6,none⟩ a7).setCell ⟨nb,7,none⟩ a8).setCell ⟨nb,8,none⟩ a9).setCell ⟨nb,9,none⟩ a10).setCell ⟨nb,10,none⟩ a11).setCell ⟨nb,11,none⟩ a12).setCell ⟨nb,12,none⟩ a13):=by
  intro a0 a1 a2 a3 a4 a5 a6 a7 a8 a9 a10 a11 a12 a13
  exact (((((((((((((hB2.setCell hge a0).setCell hge2 a1).setCell hge2 a2).setCell hge2 a3).setCell hge2 a4).setCell hge2 a5).setCell hge2 a6).setCell hge2 a7).setCell hge2 a8).setCell hge2 a9).setCell hge2 a10).setCell hge2 a11).setCell hge2 a12).setCell hge2 a13
 clear hB2 hb2
 replace hfin:=hd_ hfin
 replace hx2:=hd_ hx2
 replace hy2:=hd_ hy2
 have hne:nb≠mb:=by have:=hnb.out;omega
 go_wp2
 exact bodyPost_ret (v:=Z0w ⟨k,f,t,b,vi,la,me,po,es,co,nu,cl,y⟩ (.slice sa2 es.length sc2)) (by simp [results,Tryz.results201,go_sem,g0,g1,g2,g3,g4,g5,g6,g7,g8,g9,g10,g11,g12]) rfl ⟨⟨sa2,sc2,rfl⟩,hfin.out _ _ _ _ _ _ _ _ _ _ _ _ _ _⟩
end
section
open Go.RowKit
theorem Ziy (jb:Nat) (me_ n_ boot_ pr_:Int) (m:Ms) (sa:Option Addr) (sc:Nat) (w:World) (hj:jnO w jb me_ n_ boot_ pr_ mg0 false) (hp:rdE w (.slice sa m.ents.length sc) m.ents) (hl:m.ents.length≤1000) (hm:0≤m.mem∧m.mem<128) (hv1:I64 m.view) :
  Calls Tryz.prog 162 #[Z09 jb,Z0w m (.slice sa m.ents.length sc)] w fun r w'=>r=.returned (.bool (mayJ me_ n_ boot_ pr_ m))∧(mayJ me_ n_ boot_ pr_ m=false→Below w.heap.size w w')∧Chg (fun k=>k=jb) w w':=by
 obtain⟨k,f,t,b,vi,la,me,po,es,co,nu,cl,y⟩:=m
 dsimp only at *
 obtain⟨W0,hW0⟩:∃ W,W=w.alloc (.cells #[.int .i64 k, .int .i64 f, .int .i64 t, .int .i64 b, .int .i64 vi, .int .i64 la, .int .i64 me, .int .i64 po, .slice sa es.length sc, .int .i64 co, .int .i64 nu, .int .i64 cl, .bool y] 37):=⟨_,rfl⟩
 have hB0:Below w.heap.size w W0:=hW0 ▸ (Below.refl _ _).alloc (Nat.le_refl _) _
 obtain⟨mb,hmb⟩:∃ mb,mb=w.heap.size:=⟨_,rfl⟩
 have hm0:W0.heap[mb]?=some (.cells #[.int .i64 k, .int .i64 f, .int .i64 t, .int .i64 b, .int .i64 vi, .int .i64 la, .int .i64 me, .int .i64 po, .slice sa es.length sc, .int .i64 co, .int .i64 nu, .int .i64 cl, .bool y] 37 (0,0)):=hW0 ▸ hmb ▸ Z0a _ _
 have hj0:=hj.below hB0
 have hp0:=hp.grow hB0
 have hMy:=hd_ (jMay_gen jb me_ n_ boot_ pr_ mg0 false ⟨k,f,t,b,vi,la,me,po,es,co,nu,cl,y⟩ sa sc W0 hj0 hp0 hl hm hv1)
 obtain⟨R,hR⟩:∃ R,mayJ me_ n_ boot_ pr_ ⟨k,f,t,b,vi,la,me,po,es,co,nu,cl,y⟩=R:=⟨_,rfl⟩
 rw [hR] at hMy ⊢
 have hBB:=hd_ hB0
 replace hp0:=hd_ hp0
 have e17:=Z00 hj0 17
 simp only [jnC,List.getElem?_toArray,List.getElem?_cons_zero,List.getElem?_cons_succ] at e17
 have m0:=Z00 hm0 0
 have m1:=Z00 hm0 1
 have m2:=Z00 hm0 2
 have m3:=Z00 hm0 3
 have m4:=Z00 hm0 4
 have m5:=Z00 hm0 5
 have m6:=Z00 hm0 6
 have m7:=Z00 hm0 7
 have m8:=Z00 hm0 8
 have m9:=Z00 hm0 9
 have m10:=Z00 hm0 10
 have m11:=Z00 hm0 11
 have m12:=Z00 hm0 12
 simp only [List.getElem?_toArray,List.getElem?_cons_zero,List.getElem?_cons_succ] at m0 m1 m2 m3 m4 m5 m6 m7 m8 m9 m10 m11 m12
 have lj:=Z04 hj0
 have lm:=Z04 hm0
 replace hj0:=hd_ hj0
 replace hm0:=hd_ hm0
 clear hB0 hR hp hj
 go_enter Tryz.func162,Tryz.ntmps162
 go_upto_region 1 with (fail)
 rw [← hW0,← hmb]
 replace hW0:=hd_ hW0
 replace hmb:=hd_ hmb
 go_wp2_with fail
 refine hMy.out.mono ?_
 rintro r w2 ⟨rfl,hb2⟩
 have hB2:=hd_ (hBB.out.trans (hb2.mono hBB.out.size))
 have hp2:=hd_ (hp0.out.grow hb2)
 have hm2:=Z02 hm0.out hb2
 have hj2:=hj0.out.below hb2
 clear e17 m0 m1 m2 m3 m4 m5 m6 m7 m8 m9 m10 m11 m12 lj lm hMy hb2
 cases R
 case false=>
  replace hm2:=hd_ hm2
  replace hj2:=hd_ hj2
  go_wp2
  go_ret
  first | exact⟨rfl,hB2.out, .of_below hB2.out⟩ | exact⟨rfl,(fun _=>hB2.out), .of_below hB2.out⟩
 have m0:=Z00 hm2 0
 have m1:=Z00 hm2 1
 have m2:=Z00 hm2 2
 have m3:=Z00 hm2 3
 have m4:=Z00 hm2 4
 have m5:=Z00 hm2 5
 have m6:=Z00 hm2 6
 have m7:=Z00 hm2 7
 have m8:=Z00 hm2 8
 have m9:=Z00 hm2 9
 have m10:=Z00 hm2 10
 have m11:=Z00 hm2 11
 have m12:=Z00 hm2 12
 simp only [List.getElem?_toArray,List.getElem?_cons_zero,List.getElem?_cons_succ] at m0 m1 m2 m3 m4 m5 m6 m7 m8 m9 m10 m11 m12
 have lj:=Z04 hj2
 have lm:=Z04 hm2
 have hO:=hd_ (jOwn_gen ⟨k,f,t,b,vi,la,me,po,es,co,nu,cl,y⟩ sa sc w2 hp2.out hl)
 replace hm2:=hd_ hm2
 replace hj2:=hd_ hj2
 go_wp2_with fail
 refine hO.out.mono ?_
 rintro r w3 ⟨⟨sa2,sc2,rfl⟩,hb3⟩
 have hj3:=hj2.out.below hb3
 have hB3:=hB2.out.trans (hb3.mono hB2.out.size)
 unfold jnO at hj3
 have z4:=Z03 hj3 4
 have z5:=Z03 hj3 5
 have z6:=Z03 hj3 6
 have z7:=Z03 hj3 7
 have z8:=Z03 hj3 8
 have z9:=Z03 hj3 9
 have z10:=Z03 hj3 10
 have z11:=Z03 hj3 11
 have z12:=Z03 hj3 12
 have z13:=Z03 hj3 13
 have z14:=Z03 hj3 14
 have z15:=Z03 hj3 15
 have z16:=Z03 hj3 16
 have z17:=Z03 hj3 17
 have q4:=Z00 hj3 4
 have q5:=Z00 hj3 5
 have q6:=Z00 hj3 6
 have q7:=Z00 hj3 7
 have q8:=Z00 hj3 8
 have q9:=Z00 hj3 9
 have q10:=Z00 hj3 10
 have q11:=Z00 hj3 11
 have q12:=Z00 hj3 12
 have q13:=Z00 hj3 13
 have q14:=Z00 hj3 14
 have q15:=Z00 hj3 15
 have q16:=Z00 hj3 16
 have q17:=Z00 hj3 17
 simp only [jnC,List.getElem?_toArray,List.getElem?_cons_zero,List.getElem?_cons_succ] at q4 q5 q6 q7 q8 q9 q10 q11 q12 q13 q14 q15 q16 q17
 have hl3:=Z04 hj3
 have hfin:Chg (fun k=>k=jb) w ((((((((((((((w3.setCell ⟨jb,4,none⟩ (.int .i64 k)).setCell ⟨jb,5,none⟩ (.int .i64 f)).setCell ⟨jb,6,none⟩ (.int .i64 t)).setCell ⟨jb,7,none⟩ (.int .i64 b)).setCell ⟨jb,8,none⟩ (.int .i64 vi)).setCell ⟨jb,9,none⟩ (.int .i64 la)).setCell ⟨jb,10,none⟩ (.int .i64 me)).setCell ⟨jb,11,none⟩ (.int .i64 po)).setCell ⟨jb,12,none⟩ (.slice sa2 es.length sc2)).setCell ⟨jb,13,none⟩ (.int .i64 co)).setCell ⟨jb,14,none⟩ (.int .i64 nu)).setCell ⟨jb,15,none⟩ (.int .i64 cl)).setCell ⟨jb,16,none⟩ (.bool y)).setCell ⟨jb,17,none⟩ (.bool true)):=
  (Chg.of_below hB3).trans ((show Chg (fun k=>k=jb) w3 _ from Z06 (Z06 (Z06 (Z06 (Z06 (Z06 (Z06 (Z06 (Z06 (Z06 (Z06 (Z06 (Z06 (Z06 (Chg.refl _ _) rfl) rfl) rfl) rfl) rfl) rfl) rfl) rfl) rfl) rfl) rfl) rfl) rfl) rfl).mono fun k _ e=>.inl e)
 clear m0 m1 m2 m3 m4 m5 m6 m7 m8 m9 m10 m11 m12 lj lm hO hb3
 replace hj3:=hd_ hj3
 replace hfin:=hd_ hfin
 replace hB3:=hd_ hB3
 go_wp2
 go_ret
 exact⟨rfl,(fun h=>by cases h),hfin.out⟩
end
section
open Go.RowKit
section
variable {own own':Nat→Nat} {K:Nat} {w w':World} {a:NdAt} {s:Nd} {out:List MsS}
theorem NdO.gotJ (h:NdO own K w a s out) (j:Int) (hj:j<0) (t:Turn (fun o=>o=K+2) own own' w w'):NdO own' K w' a { s with jp:=j } out:=by
 have hk:=h.r.k16
 have r:=h.r
 refine⟨t.pub h.blk (by rw [h.r.ob];omega),h.ears,?_⟩
 exact⟨t.new,hk,(t.old _ r.b_lt).trans r.ob,(t.old _ (Z04 r.dsk)).trans r.odk,r.dsz,Z0g r.dsk t.chg (by rw [r.odk];omega),Z5w t (by omega) r.gm,fun e e2=>absurd e2 (by show ¬ 0≤j;omega),Z5r r.wf t (by omega) (by omega) r.lg,Z5s r.wf t (by omega) (by omega) r.pn,Z5t r.wf t (by omega) (by omega) r.rq,Z5v t (by omega) r.tt,Z5u r.wf t (by omega) (by omega) r.pf,Z28 r.wf t (by omega) (by omega) r.vt,Z29 t (by omega) r.qm,Z1f t (by omega) r.ask,Z1q t (by omega) (by omega) r.out⟩
theorem NdO.s8 (h:NdO own K w a s out) (j:Int):NdO own K (w.setCell ⟨a.b,8,none⟩ (.bool true)) a { s with knows:=true,jp:=j } out∧Turn (fun i=>i=K) own own w (w.setCell ⟨a.b,8,none⟩ (.bool true)):=
 h.set 8 _ (by unfold ndC;rw [List.setIfInBounds_toArray];rfl) rfl h.ears fun r=>⟨r.wf,r.k16,r.ob,r.odk,r.dsz,r.dsk,r.gm,fun e=>(by cases e),r.lg,r.pn,r.rq,r.tt,r.pf,r.vt,r.qm,r.ask,r.out⟩
theorem Zg2 (c:Nat) (h:NdO own K w a s out) (hok:Ok c s) (hkn:s.knows=false) (m:Ms) (sa:Option Addr) (sc:Nat) (hl:out.length≤1000000) (hp:pubE own w (.slice sa m.ents.length sc) m.ents) (hl2:m.ents.length≤1000) (hm:0≤m.mem∧m.mem<128) (hv1:I64 m.view) (hc0:0≤m.com) (hc1:m.com≤1000) :
  Calls Tryz.prog 117 #[Z09 a.b,Z0w m (.slice sa m.ents.length sc)] w fun r w'=>r=.returned (.tuple #[])∧Stp own K w a w' (s.state m).1 (out.map MsS.m++(s.state m).2):=by
 obtain⟨k,f,t,b,vi,la,me,po,es,co,nu,cl,y⟩:=m
 dsimp only at *
 obtain⟨W0,hW0⟩:∃ W,W=w.alloc (.cells #[.int .i64 k, .int .i64 f, .int .i64 t, .int .i64 b, .int .i64 vi, .int .i64 la, .int .i64 me, .int .i64 po, .slice sa es.length sc, .int .i64 co, .int .i64 nu, .int .i64 cl, .bool y] 37):=⟨_,rfl⟩
 have hB0:Below w.heap.size w W0:=hW0 ▸ (Below.refl _ _).alloc (Nat.le_refl _) _
 obtain⟨mb,hmb⟩:∃ mb,mb=w.heap.size:=⟨_,rfl⟩
 have hm0:W0.heap[mb]?=some (.cells #[.int .i64 k, .int .i64 f, .int .i64 t, .int .i64 b, .int .i64 vi, .int .i64 la, .int .i64 me, .int .i64 po, .slice sa es.length sc, .int .i64 co, .int .i64 nu, .int .i64 cl, .bool y] 37 (0,0)):=hW0 ▸ hmb ▸ Z0a _ _
 have hN0:=h.grow hB0
 have hmo:own mb=0:=h.wf mb (by omega)
 have t0:=hd_ (Turn.grow (J:=JK K) (own:=own) hB0 h.wf)
 have h16:=h.r.k16
 have hp0:=hd_ (hp.turn (Turn.grow (J:=JK K) (own:=own) hB0 h.wf) (jk0 h16))
 obtain⟨M,hM⟩:∃ M:Ms,M=⟨k,f,t,b,vi,la,me,po,es,co,nu,cl,y⟩:=⟨_,rfl⟩
 obtain⟨hjo,hjn⟩:=hN0.r.jn hkn hok.j0
 have hJ:=fun w' hj' hr'=>Ziy a.j s.id s.n s.boot s.jp ⟨k,f,t,b,vi,la,me,po,es,co,nu,cl,y⟩ sa sc w' hj' hr' hl2 hm hv1
 obtain⟨R,hR⟩:∃ R,s.state ⟨k,f,t,b,vi,la,me,po,es,co,nu,cl,y⟩=R:=⟨_,rfl⟩
 have hRe:R=(if !Zie s M then (s,[]) else
   let s':={ s.take M with knows:=true }
   (s',if Z18 s'.mem.toNat s'.id then [s'.ackM f 0] else [])):=by rw [← hR,hM];rfl
 rw [hR]
 obtain⟨rg,hrg⟩:∃ rg,Zie s M=rg:=⟨_,rfl⟩
 rw [hrg] at hRe
 rw [hM] at hrg
 simp only [show mayJ s.id s.n s.boot s.jp ⟨k,f,t,b,vi,la,me,po,es,co,nu,cl,y⟩=rg from hrg] at hJ
 replace hJ:=hd_ hJ
 replace hrg:=hd_ hrg
 replace hRe:=hd_ hRe
 replace hM:=hd_ hM
 replace hN0:=hd_ hN0
 replace hm0:=hd_ hm0
 replace hjn:=hd_ hjn
 replace hkn:=hd_ hkn
 clear hB0 hR hp
 go_enter Tryz.func117,Tryz.ntmps117
 go_upto_region 1 with (fail)
 rw [← hW0,← hmb]
 replace hW0:=hd_ hW0
 replace hmb:=hd_ hmb
 replace h:=hd_ h
 refine Z05 (fun _=>False) (.q 0 (.q 1 (.q 2 (.q 3 (.q 4 (.cut (.l 5 (.q 6 .fin)))))))) (by kernel_rfl) (by kernel_rfl) ?_
 intro w0 hh0 hb0
 have hNw:=hN0.out.grow hb0
 have hmw:=Z02 hm0.out hb0
 have u7:=Z01 (F:=fun _=>False) (b:=w0) (fun h=>h) (show w0.cell? ⟨a.b,7,none⟩=some (Z09 a.j) from hNw.c 7)
 have k0:=Z01 (F:=fun _=>False) (b:=w0) (fun h=>h) (show w0.cell? ⟨mb,0,none⟩=some (.int .i64 k) from Z00 hmw 0)
 have k1:=Z01 (F:=fun _=>False) (b:=w0) (fun h=>h) (show w0.cell? ⟨mb,1,none⟩=some (.int .i64 f) from Z00 hmw 1)
 have k2:=Z01 (F:=fun _=>False) (b:=w0) (fun h=>h) (show w0.cell? ⟨mb,2,none⟩=some (.int .i64 t) from Z00 hmw 2)
 have k3:=Z01 (F:=fun _=>False) (b:=w0) (fun h=>h) (show w0.cell? ⟨mb,3,none⟩=some (.int .i64 b) from Z00 hmw 3)
 have k4:=Z01 (F:=fun _=>False) (b:=w0) (fun h=>h) (show w0.cell? ⟨mb,4,none⟩=some (.int .i64 vi) from Z00 hmw 4)
 have k5:=Z01 (F:=fun _=>False) (b:=w0) (fun h=>h) (show w0.cell? ⟨mb,5,none⟩=some (.int .i64 la) from Z00 hmw 5)
 have k6:=Z01 (F:=fun _=>False) (b:=w0) (fun h=>h) (show w0.cell? ⟨mb,6,none⟩=some (.int .i64 me) from Z00 hmw 6)
 have k7:=Z01 (F:=fun _=>False) (b:=w0) (fun h=>h) (show w0.cell? ⟨mb,7,none⟩=some (.int .i64 po) from Z00 hmw 7)
 have k8:=Z01 (F:=fun _=>False) (b:=w0) (fun h=>h) (show w0.cell? ⟨mb,8,none⟩=some (.slice sa es.length sc) from Z00 hmw 8)
 have k9:=Z01 (F:=fun _=>False) (b:=w0) (fun h=>h) (show w0.cell? ⟨mb,9,none⟩=some (.int .i64 co) from Z00 hmw 9)
 have k10:=Z01 (F:=fun _=>False) (b:=w0) (fun h=>h) (show w0.cell? ⟨mb,10,none⟩=some (.int .i64 nu) from Z00 hmw 10)
 have k11:=Z01 (F:=fun _=>False) (b:=w0) (fun h=>h) (show w0.cell? ⟨mb,11,none⟩=some (.int .i64 cl) from Z00 hmw 11)
 have k12:=Z01 (F:=fun _=>False) (b:=w0) (fun h=>h) (show w0.cell? ⟨mb,12,none⟩=some (.bool y) from Z00 hmw 12)
 have tw:=Turn.grow (J:=JK K) hb0 hN0.out.wf
 have hpw:=hd_ (hp0.out.turn tw (jk0 h16))
 have hTw:=hd_ (t0.out.trans tw)
 have hjw:=hd_ (hjn.out.below hb0)
 replace hmw:=hd_ hmw
 replace hNw:=hd_ hNw
 clear hh0 tw
 replace hb0:=hd_ hb0
 repeat (refine Z0n rfl ?_;go_big_quiet_step (fail);refine wpQuiet_nil ?_)
 refine Z0h Z1j ?_
 refine Z0j rfl (by kernel_rfl) ?_
 intro K1 hK
 go_simp
 refine (hJ.out w0 hjw.out hpw.out.1).mono ?_
 rintro r w1 ⟨rfl,hbe,hch⟩
 refine hK _ _ (Zit hch) ?_
 clear u7 k0 k1 k2 k3 k4 k5 k6 k7 k8 k9 k10 k11 k12 hJ hK K1
 cases rg
 case false=>
  have hb1:=hbe rfl
  have e:R=(s,[]):=by rw [hRe.out];rfl
  have hT1:=hd_ (hTw.out.trans (Turn.grow (J:=JK K) hb1 hNw.out.wf))
  have hN1:=hd_ (hNw.out.grow hb1)
  clear hbe hch hb1
  refine Z0n rfl ?_;go_big_quiet_step (fail);refine wpQuiet_nil ?_
  refine Z0c ?_
  go_wp2
  refine bodyPost_ret (results_none rfl _ _ _) rfl ?_
  refine⟨rfl,?_⟩
  have:=hN1.out.stp (.refl a) hT1.out
  simpa [e] using this
 have t1:Turn (fun o=>o=K+2) own own w0 w1:=.same (hch.mono fun k _ e=>by rw [show k=a.j from e];exact hjo) hNw.out.wf
 have t1':=t1.mono (J':=JK K) fun o e=>by unfold JK;omega
 have hp1:=hd_ (hpw.out.turn t1' (jk0 h16))
 have hT1:=hd_ (hTw.out.trans t1')
 have hm1:=t1'.pub hmw.out (by rw [hmo];exact jk0 h16)
 have hN1:=hNw.out.gotJ (-1) (by omega) t1
 clear hbe hch t1 t1'
 have m0:=Z00 hm1 0
 have m1:=Z00 hm1 1
 have m2:=Z00 hm1 2
 have m3:=Z00 hm1 3
 have m4:=Z00 hm1 4
 have m5:=Z00 hm1 5
 have m6:=Z00 hm1 6
 have m7:=Z00 hm1 7
 have m8:=Z00 hm1 8
 have m9:=Z00 hm1 9
 have m10:=Z00 hm1 10
 have m11:=Z00 hm1 11
 have m12:=Z00 hm1 12
 simp only [List.getElem?_toArray,List.getElem?_cons_zero,List.getElem?_cons_succ] at m0 m1 m2 m3 m4 m5 m6 m7 m8 m9 m10 m11 m12
 have lm1:=Z04 hm1
 have la1:=hN1.lt
 have e:R=(let s':={ s.take M with knows:=true };(s',if Z18 s'.mem.toNat s'.id then [s'.ackM f 0] else [])):=by rw [hRe.out];rfl
 replace e:=hd_ e
 have hTk:=hd_ (Zat hN1 hok.o0 hok.o1 hok.lg ⟨k,f,t,b,vi,la,me,po,es,co,nu,cl,y⟩ sa sc hp1.out hc0 hc1 hv1)
 replace hN1:=hd_ hN1
 replace hm1:=hd_ hm1
 refine Z0n rfl ?_;go_big_quiet_step (fail);refine wpQuiet_nil ?_
 refine Z0c ?_
 go_wp2_with fail
 refine hTk.out.mono ?_
 rintro r w4 ⟨rfl,own4,a4,o4,hN4,ho4,e4,t4⟩
 rw [← hM.out] at hN4
 obtain⟨s4,hs4⟩:∃ s4,s4=({ s with jp := -1 }:Nd).take M:=⟨_,rfl⟩
 rw [← hs4] at hN4
 have hm4:=t4.pub hm1.out (by rw [hmo];exact jk0 h16)
 have hmo4:own4 mb=0:=(t4.old mb lm1).trans hmo
 have hT4:=hT1.out.trans t4
 clear m0 m1 m2 m3 m4 m5 m6 m7 m8 m9 m10 m11 m12 lm1 la1 hTk t4
 have hab:=hd_ e4.b
 have q8:w4.cell? ⟨a.b,8,none⟩=some (.bool s4.knows):=hN4.cb hab.out 8
 have z8:=hN4.free 8
 have la4:=hN4.lt
 rw [hab.out] at z8 la4
 obtain⟨hA,tA⟩:=hN4.s8 s.jp
 have hm5:=tA.pub hm4 (by omega)
 have hT5:=hT4.trans (tA.mono jkK)
 obtain⟨W5,hW5⟩:∃ W5,W5=w4.setCell ⟨a4.b,8,none⟩ (.bool true):=⟨_,rfl⟩
 obtain⟨s5,hs5⟩:∃ s5:Nd,s5={ s.take M with knows:=true }:=⟨_,rfl⟩
 have es5:({ s4 with knows:=true,jp:=s.jp }:Nd)=s5:=by rw [hs4,hs5];rfl
 rw [es5] at hA
 have hN5:NdO own4 K W5 a4 s5 o4:=hW5 ▸ hA
 replace hm5:=hd_ (show W5.heap[mb]?=_ from hW5 ▸ hm5)
 replace hT5:=hd_ (show Turn (JK K) own own4 w W5 from hW5 ▸ hT5)
 have c0:W5.cell? ⟨a.b,0,none⟩=some (.int .i64 s5.id):=hN5.cb hab.out 0
 have c12:W5.cell? ⟨a.b,12,none⟩=some (.int .i64 s5.mem):=hN5.cb hab.out 12
 have hmem:s5.mem=me:=by rw [hs5,hM.out];rfl
 have la5:a4.b<W5.heap.size:=hN5.lt
 rw [hab.out] at la5 hW5
 have e5:R=(s5,if Z18 s5.mem.toNat s5.id then [s5.ackM f 0] else []):=by rw [e.out,hs5]
 replace e5:=hd_ e5
 replace hs5:=hd_ hs5
 replace hs4:=hd_ hs4
 replace hN5:=hd_ hN5
 clear hA tA hm4 hT4 es5 e
 replace hN4:=hd_ hN4
 replace hmem:=hd_ hmem
 go_upto_region 4 with (fail)
 rw [← hW5]
 replace hW5:=hd_ hW5
 clear q8 z8 la4
 refine Z05 (fun _=>False) (.q 0 (.q 1 (.q 2 (.q 3 (.q 4 (.q 5 (.q 6 (.q 7 (.cut (.l 8 .fin)))))))))) (by kernel_rfl) (by kernel_rfl) ?_
 intro w6 hh6 hb6
 have hN6:=hN5.out.grow hb6
 have hm6:=hd_ (Z02 hm5.out hb6)
 have hT6:=hd_ (hT5.out.trans (Turn.grow (J:=JK K) hb6 hN5.out.wf))
 have u0:=Z01 (F:=fun _=>False) (b:=w6) (fun h=>h) (show w6.cell? ⟨a.b,0,none⟩=some (.int .i64 s5.id) from hN6.cb hab.out 0)
 have u12:=Z01 (F:=fun _=>False) (b:=w6) (fun h=>h) (show w6.cell? ⟨a.b,12,none⟩=some (.int .i64 s5.mem) from hN6.cb hab.out 12)
 replace hN6:=hd_ hN6
 clear hh6 c0 c12
 replace hb6:=hd_ hb6
 repeat (refine Z0n rfl ?_;go_big_quiet_step (fail);refine wpQuiet_nil ?_)
 refine Z0h Z1j ?_
 refine Z0j rfl (by kernel_rfl) ?_
 intro K1 hK
 go_simp
 refine (Z3g s5.mem s5.id _ (by rw [hmem.out];exact hm)).mono ?_
 rintro r wx ⟨rfl,rfl⟩
 refine hK _ _ (Chg.refl _ _) ?_
 clear hK K1 u0 u12
 refine Z0c ?_
 have lo4:o4.length≤1000000:=by have:=congrArg List.length ho4;simp at this;omega
 obtain⟨hh,hhe⟩:∃ hh,Z18 s5.mem.toNat s5.id=hh:=⟨_,rfl⟩
 rw [hhe] at e5 ⊢
 replace hhe:=hd_ hhe
 replace ho4:=hd_ ho4
 cases hh
 case false=>
  go_wp2
  go_end0
  rw [e5.out]
  refine⟨rfl,?_⟩
  have:=hN6.out.stp e4 hT6.out
  rw [ho4.out] at this
  simpa using this
 have m1:=Z00 hm6.out 1
 simp only [List.getElem?_toArray,List.getElem?_cons_zero,List.getElem?_cons_succ] at m1
 have lm6:=Z04 hm6.out
 have hAk:=hd_ (xAckB hN6.out a.b hab.out f 0 (by omega))
 have la6:=hN6.out.lt
 rw [show a4.b=a.b from hab.out] at la6
 go_wp2_with fail
 refine hAk.out.mono ?_
 rintro r w7 ⟨rfl,hst⟩
 have hst2:=hd_ (hst.after (a:=a) ⟨e4.b,e4.dk,e4.od,e4.cs,e4.T⟩ hT6.out)
 clear hst hAk m1 lm6
 go_wp2
 go_end0
 rw [e5.out]
 refine⟨rfl,?_⟩
 have:=hst2.out
 rw [ho4.out] at this
 exact this
end
end
end Go.Proofs.YtbonjbokofkafaaGreat
