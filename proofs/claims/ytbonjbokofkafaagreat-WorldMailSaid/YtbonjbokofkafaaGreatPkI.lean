/- Lemmas of the proof: PkI. -/
import Derived.Test.YtbonjbokofkafaaGreatPkL
import Derived.Test.YtbonjbokofkafaaGreatPkH
import Derived.Test.YtbonjbokofkafaaGreatPkA
import Derived.Test.YtbonjbokofkafaaGreatPkC
import Derived.Deep.DeepCutAuto
namespace Go.Proofs.YtbonjbokofkafaaGreat
set_option linter.unusedVariables false
set_option maxRecDepth 100000
set_option maxHeartbeats 64000000
section
open Go.RowKit
theorem Zir (me:Int) (bs:List Int) (h:bs.length=8) (i:Nat) (hi:i<8):(gC me bs)[1+i]?=some (.int .i64 (bs.getD i 0)):=by
 match bs,h with
 | [a0,a1,a2,a3,a4,a5,a6,a7],_=>
   rcases (by omega:i=0∨i=1∨i=2∨i=3∨i=4∨i=5∨i=6∨i=7) with rfl | rfl | rfl | rfl | rfl | rfl | rfl | rfl<;>rfl
theorem gC_set (me:Int) (bs:List Int) (h:bs.length=8) (i:Nat) (hi:i<8) (x:Int):(gC me bs).setIfInBounds (1+i) (.int .i64 x)=gC me (bs.set i x):=by
 match bs,h with
 | [a0,a1,a2,a3,a4,a5,a6,a7],_=>
   rcases (by omega:i=0∨i=1∨i=2∨i=3∨i=4∨i=5∨i=6∨i=7) with rfl | rfl | rfl | rfl | rfl | rfl | rfl | rfl<;>rfl
abbrev msZ:Ms:=⟨0,0,0,0,0,0,0,0,[],0,0,0,false⟩
def GHeard (gb:Nat) (me:Int) (bs:List Int) (m:Ms) (w:World) (r:Ending) (w':World):Prop:=
 (m.too≠me∧r=.returned (.tuple #[Z0w msZ (.slice none 0 0), .int .i64 1])∧Below w.heap.size w w') ∨
 (m.too=me∧m.boot<bs.getD m.frm.toNat 0∧r=.returned (.tuple #[Z0w msZ (.slice none 0 0), .int .i64 7])∧Below w.heap.size w w') ∨
 (m.too=me∧¬ m.boot<bs.getD m.frm.toNat 0∧∃ sa sc,r=.returned (.tuple #[Z0w m (.slice sa m.ents.length sc), .int .i64 0])∧gmO w' gb me (bs.set m.frm.toNat m.boot)∧ownE w' w.heap.size 134 (.slice sa m.ents.length sc) m.ents∧Chg (fun k=>k=gb) w w')
theorem Zis (gb:Nat) (me:Int) (bs:List Int) (v:Value) (m:Ms) (w:World) (hg:gmO w gb me bs) (h:rdB w v (Z4w m)) (hm:MayM m) :
  Calls Tryz.prog 115 #[.pointer (some ⟨gb,0,none⟩),v] w fun r w'=>GHeard gb me bs m w r w':=by
 obtain⟨z0,k1⟩:=hg
 have hgl:=Z04 z0
 have HB:=hd_ ((Below.refl w.heap.size w).alloc (Nat.le_refl _) Zcl)
 have b1:=hd_ (Z0a w Zcl)
 have hf1:=hm.f1
 have hf7:=hm.f2
 have HD:=hd_ (fun w1 (hb:Below w.heap.size w w1)=>Zfv v m w1 (h.below hb) hm)
 clear hm h;replace z0:=hd_ z0
 obtain⟨fn,p2⟩:=Int.eq_ofNat_of_zero_le (by omega:0≤m.frm)
 obtain⟨k,f,t,b,vi,l,mm,po,es,co,nu,cl,y⟩:=m
 dsimp only at *
 subst p2
 have q1:fn<8:=by omega
 obtain⟨ob,v0⟩:∃ ob,bs.getD fn 0=ob:=⟨_,rfl⟩
 replace v0:=hd_ v0
 go_enter Tryz.func115,Tryz.ntmps115
 go_wp2_with fail
 refine (HD.out _ HB.out).mono ?_
 rintro r w1 ⟨sa,sc,rfl,y1,o1⟩
 have c1:=hd_ (Z02 b1.out o1)
 have h1:=hd_ (HB.out.trans (o1.mono HB.out.size))
 have s2:=h1.out.size
 have e2:=hd_ (Z02 z0.out h1.out)
 obtain⟨W2,l0⟩:∃ W2,W2=w1.alloc (.cells #[.int .i64 k, .int .i64 (fn:Int), .int .i64 t, .int .i64 b, .int .i64 vi, .int .i64 l, .int .i64 mm, .int .i64 po, .slice sa es.length sc, .int .i64 co, .int .i64 nu, .int .i64 cl, .bool y] 37):=⟨_,rfl⟩
 have y0:Below w.heap.size w W2:=l0 ▸ h1.out.alloc s2 _
 have j0:W2.heap[w.heap.size]?=some Zcl:=l0 ▸ Z4l _ c1.out
 have s0:W2.heap[gb]?=some (.cells (gC me bs) 201 (0,0)):=l0 ▸ Z4l _ e2.out
 have o0:W2.heap[w1.heap.size]?=some (.cells #[.int .i64 k, .int .i64 (fn:Int), .int .i64 t, .int .i64 b, .int .i64 vi, .int .i64 l, .int .i64 mm, .int .i64 po, .slice sa es.length sc, .int .i64 co, .int .i64 nu, .int .i64 cl, .bool y] 37 (0,0)):=l0 ▸ Z0a _ _
 have v2:Hid (∀ k,(Value.slice sa es.length sc).ownBlock=some k→w.heap.size<k):=hd_ fun k hk=>by
  have:=(y1.lt k hk).1
  have:(w.alloc Zcl).heap.size=w.heap.size+1:=World.size_alloc ..
  omega
 have n1:ownE W2 w.heap.size 134 (.slice sa es.length sc) es:=Z71 (l0 ▸ Z0z y1 ((Below.refl _ _).alloc (Nat.le_refl _) _)) (by have:=HB.out.size;omega)
 obtain⟨xb,e1⟩:∃ xb,xb=w1.heap.size:=⟨_,rfl⟩
 rw [← e1] at o0
 replace e1:=hd_ e1;go_upto_region 4 with (fail)
 rw [← l0,← e1.out]
 clear l0 y1 o1 c1 e2 h1 HB b1 z0
 have c0:W2.cell? ⟨gb,0,none⟩=some (.int .i64 me):=Z00 s0 0
 have x2:=Z00 o0 2
 simp only [List.getElem?_toArray,List.getElem?_cons_zero,List.getElem?_cons_succ] at x2
 have u0:=Z07 c0
 have u2:=Z07 x2
 have m1:=Z04 o0
 have r1:=Z04 s0
 replace y0:=hd_ y0;replace j0:=hd_ j0;replace s0:=hd_ s0;replace o0:=hd_ o0;replace n1:=hd_ n1
 refine Z08 (by kernel_rfl) (by kernel_rfl) ?_
 repeat (go_big_quiet_step (fail))
 refine wpQuiet_nil ?_
 intro w3 m2
 have p0:=Z0e m2
 have i1:=hd_ (y0.out.trans (p0.mono y0.out.size))
 have b0:=hd_ (Z02 j0.out p0)
 have l1:=hd_ (Z02 s0.out p0)
 have d1:=hd_ (Z02 o0.out p0)
 have j2:=hd_ (Z0z n1.out p0)
 clear m2 p0 y0 j0 s0 o0 n1 u0 u2 x2 c0 m1 r1
 by_cases hte:t=me
 case neg=>
  have w2:(t != me)=true:=by simpa using hte
  replace hte:=hd_ hte
  have g0:=Z00 b0.out 0
  have g1:=Z00 b0.out 1
  have g2:=Z00 b0.out 2
  have g3:=Z00 b0.out 3
  have g4:=Z00 b0.out 4
  have g5:=Z00 b0.out 5
  have g6:=Z00 b0.out 6
  have g7:=Z00 b0.out 7
  have g8:=Z00 b0.out 8
  have g9:=Z00 b0.out 9
  have g10:=Z00 b0.out 10
  have g11:=Z00 b0.out 11
  have g12:=Z00 b0.out 12
  simp only [List.getElem?_toArray,List.getElem?_cons_zero,List.getElem?_cons_succ] at g0 g1 g2 g3 g4 g5 g6 g7 g8 g9 g10 g11 g12
  have t0:=Z03 b0.out 0
  have t1:=Z03 b0.out 1
  have t2:=Z03 b0.out 2
  have t3:=Z03 b0.out 3
  have t4:=Z03 b0.out 4
  have t5:=Z03 b0.out 5
  have t6:=Z03 b0.out 6
  have t7:=Z03 b0.out 7
  have t8:=Z03 b0.out 8
  have t9:=Z03 b0.out 9
  have t10:=Z03 b0.out 10
  have t11:=Z03 b0.out 11
  have t12:=Z03 b0.out 12
  have m1:=Z04 b0.out
  have f0:w.heap.size≤w.heap.size:=Nat.le_refl _
  have i0:∀ a0 a1 a2 a3 a4 a5 a6 a7 a8 a9 a10 a11 a12,Below w.heap.size w (((((((((((((w3.setCell ⟨w.heap.size,0,none⟩ a0).setCell ⟨w.heap.size,1,none⟩ a1).setCell ⟨w.heap.size,2,none⟩ a2).setCell ⟨w.heap.size,3,none⟩ a3).setCell ⟨w.heap.size,4,none⟩ a4).setCell ⟨w.heap.size,5,none⟩ a5).setCell ⟨w.heap.size,6,none⟩ a6).setCell ⟨w.heap.size,7,none⟩ a7).setCell ⟨w.heap.size,8,none⟩ a8).setCell ⟨w.heap.size,9,none⟩ a9).setCell ⟨w.heap.size,10,none⟩ a10).setCell ⟨w.heap.size,11,none⟩ a11).setCell ⟨w.heap.size,12,none⟩ a12):=by
   intro a0 a1 a2 a3 a4 a5 a6 a7 a8 a9 a10 a11 a12
   exact (((((((((((((i1.out.setCell f0 a0).setCell f0 a1).setCell f0 a2).setCell f0 a3).setCell f0 a4).setCell f0 a5).setCell f0 a6).setCell f0 a7).setCell f0 a8).setCell f0 a9).setCell f0 a10).setCell f0 a11).setCell f0 a12)
  replace i0:=hd_ i0;clear f0;go_wp2
  exact bodyPost_ret (v:=.tuple #[Z0w msZ (.slice none 0 0), .int .i64 1]) (by simp [results,Tryz.results115,go_sem,g0,g1,g2,g3,g4,g5,g6,g7,g8,g9,g10,g11,g12]) rfl (.inl ⟨hte.out,rfl,i0.out _ _ _ _ _ _ _ _ _ _ _ _ _ ⟩)
 subst hte
 have w2:(t != t)=false:=by simp
 have x3:=Z00 d1.out 3
 have x1:=Z00 d1.out 1
 simp only [List.getElem?_toArray,List.getElem?_cons_zero,List.getElem?_cons_succ] at x1 x3
 have cb:w3.cell? ⟨gb,1+fn,none⟩=some (.int .i64 (bs.getD fn 0)):=(Z00 l1.out (1+fn)).trans (Zir t bs k1 fn q1)
 have r2:=Z04 d1.out
 have s1:=Z04 l1.out
 rw [v0.out] at cb
 go_upto_region 6 with (fail)
 have u1:=Z07 x1
 have u3:=Z07 x3
 have ub:=Z07 cb
 refine Z08 (by kernel_rfl) (by kernel_rfl) ?_
 repeat (go_big_quiet_step (fail))
 refine wpQuiet_nil ?_
 intro w4 n2
 have q0:=Z0e n2
 have j1:=hd_ (i1.out.trans (q0.mono i1.out.size))
 have d0:=hd_ (Z02 b0.out q0)
 have h2:=hd_ (Z02 l1.out q0)
 have o2:=hd_ (Z02 d1.out q0)
 have k2:=hd_ (Z0z j2.out q0)
 clear n2 q0 i1 b0 l1 d1 j2 u1 u3 ub x1 x3 cb r2 s1
 by_cases hbo:b<ob
 case pos=>
  have g0:=Z00 d0.out 0
  have g1:=Z00 d0.out 1
  have g2:=Z00 d0.out 2
  have g3:=Z00 d0.out 3
  have g4:=Z00 d0.out 4
  have g5:=Z00 d0.out 5
  have g6:=Z00 d0.out 6
  have g7:=Z00 d0.out 7
  have g8:=Z00 d0.out 8
  have g9:=Z00 d0.out 9
  have g10:=Z00 d0.out 10
  have g11:=Z00 d0.out 11
  have g12:=Z00 d0.out 12
  simp only [List.getElem?_toArray,List.getElem?_cons_zero,List.getElem?_cons_succ] at g0 g1 g2 g3 g4 g5 g6 g7 g8 g9 g10 g11 g12
  have t0:=Z03 d0.out 0
  have t1:=Z03 d0.out 1
  have t2:=Z03 d0.out 2
  have t3:=Z03 d0.out 3
  have t4:=Z03 d0.out 4
  have t5:=Z03 d0.out 5
  have t6:=Z03 d0.out 6
  have t7:=Z03 d0.out 7
  have t8:=Z03 d0.out 8
  have t9:=Z03 d0.out 9
  have t10:=Z03 d0.out 10
  have t11:=Z03 d0.out 11
  have t12:=Z03 d0.out 12
  have m1:=Z04 d0.out
  have f0:w.heap.size≤w.heap.size:=Nat.le_refl _
  have i0:∀ a0 a1 a2 a3 a4 a5 a6 a7 a8 a9 a10 a11 a12,Below w.heap.size w (((((((((((((w4.setCell ⟨w.heap.size,0,none⟩ a0).setCell ⟨w.heap.size,1,none⟩ a1).setCell ⟨w.heap.size,2,none⟩ a2).setCell ⟨w.heap.size,3,none⟩ a3).setCell ⟨w.heap.size,4,none⟩ a4).setCell ⟨w.heap.size,5,none⟩ a5).setCell ⟨w.heap.size,6,none⟩ a6).setCell ⟨w.heap.size,7,none⟩ a7).setCell ⟨w.heap.size,8,none⟩ a8).setCell ⟨w.heap.size,9,none⟩ a9).setCell ⟨w.heap.size,10,none⟩ a10).setCell ⟨w.heap.size,11,none⟩ a11).setCell ⟨w.heap.size,12,none⟩ a12):=by
   intro a0 a1 a2 a3 a4 a5 a6 a7 a8 a9 a10 a11 a12
   exact (((((((((((((j1.out.setCell f0 a0).setCell f0 a1).setCell f0 a2).setCell f0 a3).setCell f0 a4).setCell f0 a5).setCell f0 a6).setCell f0 a7).setCell f0 a8).setCell f0 a9).setCell f0 a10).setCell f0 a11).setCell f0 a12)
  replace i0:=hd_ i0;clear f0;go_wp2
  exact bodyPost_ret (v:=.tuple #[Z0w msZ (.slice none 0 0), .int .i64 7]) (by simp [results,Tryz.results115,go_sem,g0,g1,g2,g3,g4,g5,g6,g7,g8,g9,g10,g11,g12]) rfl (.inr (.inl ⟨rfl,(by show b<bs.getD fn 0;rw [v0.out];exact hbo),rfl,i0.out _ _ _ _ _ _ _ _ _ _ _ _ _ ⟩))
 go_upto_region 8 with (fail)
 refine Z05 (fun _=>False) (.q 0 (.q 1 (.q 2 (.q 3 (.q 4 (.q 5 (.q 6 (.q 7 (.cut (.l 8 .fin)))))))))) (by kernel_rfl) (by kernel_rfl) ?_
 intro w5 q2 r0
 have c2:=hd_ (j1.out.trans (r0.mono j1.out.size))
 have k0:w5.heap[w.heap.size]?=_:=Z02 d0.out r0
 have m0:=Z02 h2.out r0
 have w0:=Z02 o2.out r0
 have z1:=hd_ (Z0z k2.out r0)
 have u1:=Z01 (F:=fun _=>False) (b:=w5) (fun h=>h) (show w5.cell? ⟨xb,1,none⟩=some (.int .i64 (fn:Int)) from Z00 w0 1)
 have u3:=Z01 (F:=fun _=>False) (b:=w5) (fun h=>h) (show w5.cell? ⟨xb,3,none⟩=some (.int .i64 b) from Z00 w0 3)
 have cb:w5.cell? ⟨gb,1+fn,none⟩=some (.int .i64 ob):=(Z00 m0 (1+fn)).trans (by rw [Zir t bs k1 fn q1,v0.out])
 have zb:=Z03 m0 (1+fn)
 have v1:=Z04 m0
 clear q2 r0 j1 d0 h2 o2 k2;replace m0:=hd_ m0;replace w0:=hd_ w0;replace k0:=hd_ k0;iterate 8 (refine Z0n rfl ?_;go_big_quiet_step (fail);refine wpQuiet_nil ?_)
 refine Z0h Z1j ?_;refine Z0j rfl (by kernel_rfl) ?_;intro K1 hK;go_simp
 refine hK _ _ (Z06 (Chg.refl _ _) trivial) ?_
 clear hK K1;refine Z0c ?_
 obtain⟨w6,n0⟩:∃ w6,w6=w5.setCell ⟨gb,1+fn,none⟩ (.int .i64 b):=⟨_,rfl⟩
 rw [← n0]
 have y2:=e1.out
 have i2:w6.heap[gb]?=some (.cells (gC t (bs.set fn b)) 201 (0,0)):=by rw [n0,Z0d m0.out,gC_set t bs k1 fn q1]
 have h0:=hd_ (show w6.heap[xb]?=_ from n0 ▸ Z0u w0.out (by omega))
 have e0:=hd_ (show w6.heap[w.heap.size]?=_ from n0 ▸ Z0u k0.out (by omega))
 have d2:Chg (fun k=>k=gb) w w6:=n0 ▸ Z06 (.of_below c2.out) rfl
 have l2:ownE w6 w.heap.size 134 (.slice sa es.length sc) es:=by
  rw [n0]
  exact z1.out.chg (Z06 (F:=fun k=>k=gb) (Chg.refl _ _) rfl) fun k hk e=>by have:=(z1.out.lt k hk).1;omega
 have b2:Hid (∀ k,(Value.slice sa es.length sc).ownBlock=some k→w.heap.size<k):=v2
 have p1:=hd_ hbo
 clear n0 m0 w0 k0 c2 z1 u1 u3 cb zb v1 y2
 have x0:=Z00 h0.out 0
 have x1:=Z00 h0.out 1
 have x2:=Z00 h0.out 2
 have x3:=Z00 h0.out 3
 have x4:=Z00 h0.out 4
 have x5:=Z00 h0.out 5
 have x6:=Z00 h0.out 6
 have x7:=Z00 h0.out 7
 have x8:=Z00 h0.out 8
 have x9:=Z00 h0.out 9
 have x10:=Z00 h0.out 10
 have x11:=Z00 h0.out 11
 have x12:=Z00 h0.out 12
 simp only [List.getElem?_toArray,List.getElem?_cons_zero,List.getElem?_cons_succ] at x0 x1 x2 x3 x4 x5 x6 x7 x8 x9 x10 x11 x12
 have g0:=Z00 e0.out 0
 have g1:=Z00 e0.out 1
 have g2:=Z00 e0.out 2
 have g3:=Z00 e0.out 3
 have g4:=Z00 e0.out 4
 have g5:=Z00 e0.out 5
 have g6:=Z00 e0.out 6
 have g7:=Z00 e0.out 7
 have g8:=Z00 e0.out 8
 have g9:=Z00 e0.out 9
 have g10:=Z00 e0.out 10
 have g11:=Z00 e0.out 11
 have g12:=Z00 e0.out 12
 simp only [List.getElem?_toArray,List.getElem?_cons_zero,List.getElem?_cons_succ] at g0 g1 g2 g3 g4 g5 g6 g7 g8 g9 g10 g11 g12
 have t0:=Z03 e0.out 0
 have t1:=Z03 e0.out 1
 have t2:=Z03 e0.out 2
 have t3:=Z03 e0.out 3
 have t4:=Z03 e0.out 4
 have t5:=Z03 e0.out 5
 have t6:=Z03 e0.out 6
 have t7:=Z03 e0.out 7
 have t8:=Z03 e0.out 8
 have t9:=Z03 e0.out 9
 have t10:=Z03 e0.out 10
 have t11:=Z03 e0.out 11
 have t12:=Z03 e0.out 12
 have m1:=Z04 e0.out
 have hl6:=Z04 h0.out
 have f0:w.heap.size≤w.heap.size:=Nat.le_refl _
 have i0:∀ a0 a1 a2 a3 a4 a5 a6 a7 a8 a9 a10 a11 a12,gmO (((((((((((((w6.setCell ⟨w.heap.size,0,none⟩ a0).setCell ⟨w.heap.size,1,none⟩ a1).setCell ⟨w.heap.size,2,none⟩ a2).setCell ⟨w.heap.size,3,none⟩ a3).setCell ⟨w.heap.size,4,none⟩ a4).setCell ⟨w.heap.size,5,none⟩ a5).setCell ⟨w.heap.size,6,none⟩ a6).setCell ⟨w.heap.size,7,none⟩ a7).setCell ⟨w.heap.size,8,none⟩ a8).setCell ⟨w.heap.size,9,none⟩ a9).setCell ⟨w.heap.size,10,none⟩ a10).setCell ⟨w.heap.size,11,none⟩ a11).setCell ⟨w.heap.size,12,none⟩ a12) gb t (bs.set fn b)∧ownE (((((((((((((w6.setCell ⟨w.heap.size,0,none⟩ a0).setCell ⟨w.heap.size,1,none⟩ a1).setCell ⟨w.heap.size,2,none⟩ a2).setCell ⟨w.heap.size,3,none⟩ a3).setCell ⟨w.heap.size,4,none⟩ a4).setCell ⟨w.heap.size,5,none⟩ a5).setCell ⟨w.heap.size,6,none⟩ a6).setCell ⟨w.heap.size,7,none⟩ a7).setCell ⟨w.heap.size,8,none⟩ a8).setCell ⟨w.heap.size,9,none⟩ a9).setCell ⟨w.heap.size,10,none⟩ a10).setCell ⟨w.heap.size,11,none⟩ a11).setCell ⟨w.heap.size,12,none⟩ a12) w.heap.size 134 (.slice sa es.length sc) es∧Chg (fun k=>k=gb) w (((((((((((((w6.setCell ⟨w.heap.size,0,none⟩ a0).setCell ⟨w.heap.size,1,none⟩ a1).setCell ⟨w.heap.size,2,none⟩ a2).setCell ⟨w.heap.size,3,none⟩ a3).setCell ⟨w.heap.size,4,none⟩ a4).setCell ⟨w.heap.size,5,none⟩ a5).setCell ⟨w.heap.size,6,none⟩ a6).setCell ⟨w.heap.size,7,none⟩ a7).setCell ⟨w.heap.size,8,none⟩ a8).setCell ⟨w.heap.size,9,none⟩ a9).setCell ⟨w.heap.size,10,none⟩ a10).setCell ⟨w.heap.size,11,none⟩ a11).setCell ⟨w.heap.size,12,none⟩ a12):=by
  intro a0 a1 a2 a3 a4 a5 a6 a7 a8 a9 a10 a11 a12
  have hc:Chg (fun k=>k=w.heap.size) w6 (((((((((((((w6.setCell ⟨w.heap.size,0,none⟩ a0).setCell ⟨w.heap.size,1,none⟩ a1).setCell ⟨w.heap.size,2,none⟩ a2).setCell ⟨w.heap.size,3,none⟩ a3).setCell ⟨w.heap.size,4,none⟩ a4).setCell ⟨w.heap.size,5,none⟩ a5).setCell ⟨w.heap.size,6,none⟩ a6).setCell ⟨w.heap.size,7,none⟩ a7).setCell ⟨w.heap.size,8,none⟩ a8).setCell ⟨w.heap.size,9,none⟩ a9).setCell ⟨w.heap.size,10,none⟩ a10).setCell ⟨w.heap.size,11,none⟩ a11).setCell ⟨w.heap.size,12,none⟩ a12):=(Z06 (Z06 (Z06 (Z06 (Z06 (Z06 (Z06 (Z06 (Z06 (Z06 (Z06 (Z06 (Z06 (Chg.refl _ _) rfl) rfl) rfl) rfl) rfl) rfl) rfl) rfl) rfl) rfl) rfl) rfl) rfl)
  exact⟨⟨Z0g i2 hc (by omega),by rw [List.length_set];exact k1⟩,l2.chg hc (fun k hk e=>by have:=b2.out k hk;omega),d2.more hc (fun i hi=>.inr (by omega))⟩
 replace i0:=hd_ i0;clear f0 i2 d2 l2;go_wp2
 exact bodyPost_ret (v:=.tuple #[Z0w ⟨k,fn,t,b,vi,l,mm,po,es,co,nu,cl,y⟩ (.slice sa es.length sc), .int .i64 0]) (by simp [results,Tryz.results115,go_sem,g0,g1,g2,g3,g4,g5,g6,g7,g8,g9,g10,g11,g12]) rfl (Or.inr (Or.inr ⟨rfl,(by show ¬ b<bs.getD fn 0;rw [v0.out];exact Int.not_lt.2 p1.out),sa,sc,rfl,i0.out _ _ _ _ _ _ _ _ _ _ _ _ _ ⟩))
end
section
open Go.RowKit
def Stp (own:Nat→Nat) (K:Nat) (w:World) (a:NdAt) (w':World) (s':Nd) (out':List Ms):Prop:=
 ∃ own' a' o',NdO own' K w' a' s' o'∧o'.map MsS.m=out'∧At0 a a'∧Turn (JK K) own own' w w'
theorem jk0 {K:Nat} (h:16≤K):¬ JK K 0:=fun e=>by unfold JK at e;omega
section
variable {own own':Nat→Nat} {K:Nat} {w w':World} {a a':NdAt} {s:Nd} {out:List MsS}
theorem NdO.cb (h:NdO own K w a s out) {b:Nat} (e:a.b=b) (o:Nat):w.cell? ⟨b,o,none⟩=(ndC a s)[o]?:=by rw [← e];exact h.c o
theorem NdO.same (h:NdO own K w a s out):Stp own K w a w s (out.map MsS.m):=⟨own,a,out,h,rfl, .refl a, .grow (Below.refl _ _) h.wf⟩
theorem NdO.stp (h:NdO own' K w' a' s out) (e:At0 a a') (t:Turn (JK K) own own' w w'):Stp own K w a w' s (out.map MsS.m):=⟨own',a',out,h,rfl,e,t⟩
theorem Stp.after {w1:World} {s':Nd} {l:List Ms} (h:Stp own' K w1 a' w' s' l) (e:At0 a a') (t:Turn (JK K) own own' w w1):Stp own K w a w' s' l:=by
 obtain⟨own2,a2,o2,h1,h2,h3,h4⟩:=h
 exact⟨own2,a2,o2,h1,h2,e.trans h3,t.trans h4⟩
theorem NdO.free (h:NdO own K w a s out) (o:Nat):w.frozen? ⟨a.b,o,none⟩=false:=Z03 h.blk o
theorem NdO.set (h:NdO own K w a s out) (o:Nat) (u:Value) {a':NdAt} {s':Nd} (e:(ndC a s).setIfInBounds o u=ndC a' s') (eb:a'.b=a.b) (he:s'.ears.length=8) (hr:NdR own K w a s out→NdR own K w a' s' out) :
  NdO own K (w.setCell ⟨a.b,o,none⟩ u) a' s' out∧Turn (fun i=>i=K) own own w (w.setCell ⟨a.b,o,none⟩ u):=by
 have t:Turn (fun i=>i=K) own own w (w.setCell ⟨a.b,o,none⟩ u):=.same (Z06 (Chg.refl _ _) h.r.ob) h.wf
 have hk:=h.r.k16
 refine⟨⟨?_,he,(hr h.r).turn t (by omega) (by omega) (fun i e=>by omega)⟩,t⟩
 rw [eb,← e];exact Z0d h.blk
end
end
section
open Go.RowKit
theorem Zit {F:Nat→Prop} {w w':World} (h:Chg F w w'):Chg Z1j w w':=h.mono fun _ _ _=>trivial
theorem Z0l {J:Nat→Prop} {own own':Nat→Nat} {w w':World} (t:Turn J own own' w w'):Chg Z1j w w':=Zit t.chg
theorem Ziu (a:Option Addr) (c:Nat) (f:Value) (w:World) :
  Calls Tryz.prog 228 #[.slice a 0 c,f] w fun r w'=>r=.returned (.int .i64 (-1))∧w=w':=by
 go_enter Tryz.func228,Tryz.ntmps228
 go_wp2
 go_loopw [8] (fun i wr=>i=.int .i64 0∧wr=w) (fun _ _=>0)
 case atStart=>exact⟨rfl,rfl⟩
 case round=>
  obtain⟨rfl,rfl⟩:=hrel
  go_wp2
  go_ret
  exact⟨rfl,rfl⟩
theorem Zfw (a:Option Addr) (c:Nat) (f:Value) (w:World) :
  Calls Tryz.prog 209 #[.slice a 0 c,f] w fun r w'=>r=.returned (.slice a 0 c)∧w=w':=by
 go_enter Tryz.func209,Tryz.ntmps209
 go_wp2_with fail
 refine (Ziu a c f _).mono ?_
 rintro r w1 ⟨rfl,rfl⟩;go_wp2
 go_ret
 exact⟨rfl,rfl⟩
theorem Z7f (b:Nat) (frm boot seq:Int) (l:List Ent) (F:Nat→Prop) (w:World) (h:pnO w F b frm boot seq l) :
  Calls Tryz.prog 86 #[.pointer (some ⟨b,0,none⟩)] w fun r w'=>r=.returned (.int .i64 l.length)∧w=w':=by
 obtain⟨hF,v,hb,ho,hv⟩:=h
 have c3:w.cell? ⟨b,3,none⟩=some v:=Z00 hb 3
 obtain⟨a,c,rfl⟩:=ho.rd.len
 have hl:=Z04 hb
 replace hb:=hd_ hb;clear ho hv
 go_enter Tryz.func86,Tryz.ntmps86
 go_wp2
 go_ret
 exact⟨rfl,rfl⟩
end
section
open Go.RowKit
theorem NdO.setOv {own:Nat→Nat} {K:Nat} {w:World} {a:NdAt} {s:Nd} {out:List MsS} (h:NdO own K w a s out) :
  NdO own K (w.setCell ⟨a.b,33,none⟩ (.slice none 0 0)) { a with ov:=.slice none 0 0 } s []∧Turn (fun o=>o=K) own own w (w.setCell ⟨a.b,33,none⟩ (.slice none 0 0)):=by
 have t:Turn (fun i=>i=K) own own w (w.setCell ⟨a.b,33,none⟩ (.slice none 0 0)):=.same (Z06 (Chg.refl _ _) h.r.ob) h.wf
 have hk:=h.r.k16
 exact⟨⟨by rw [← Z79 a s h.ears];exact Z0d h.blk,h.ears,h.r.noO.turn t (by omega) (by omega) (fun i e=>by omega)⟩,t⟩
structure Given (own:Nat→Nat) (K:Nat) (w:World) (v:Value) (out:List MsS):Prop where
 row:ownG Z23 w 0 37 v out
 blk:∀ k,v.ownBlock=some k→own k=K+12
 ents:∀ x ∈ out,rdE w x.s x.m.ents∧(0<x.m.ents.length→∀ k,x.s.ownBlock=some k→own k=0)
def SetOk (P:(Nat→Nat)→World→Nd→Prop):Prop:=∀ (own:Nat→Nat) (K:Nat) (w:World) (a:NdAt) (s:Nd) (out:List MsS),NdO own K w a s out→P own w s →
 Calls Tryz.prog 142 #[Z09 a.b] w fun r w'=>r=.returned (.tuple #[])∧∃ own',NdO own' K w' a s.settle out∧Turn (JK K) own own' w w'
section
variable {own:Nat→Nat} {K:Nat} {w:World} {a:NdAt} {s:Nd} {out:List MsS}
theorem Z3m {P:(Nat→Nat)→World→Nd→Prop} (hS:SetOk P) (h:NdO own K w a s out) (hP:P own w s) :
  Calls Tryz.prog 79 #[Z09 a.b] w fun r w'=>r=.returned a.ov∧∃ own',NdO own' K w' { a with ov:=.slice none 0 0 } s.settle []∧Turn (JK K) own own' w w'∧Given own' K w' a.ov out:=by
 have hc:=hd_ (hS own K w a s out h hP)
 clear h
 obtain⟨s',a0⟩:∃ s',s.settle=s':=⟨_,rfl⟩
 rw [a0] at hc ⊢
 clear a0 hP
 go_enter Tryz.func79,Tryz.ntmps79
 go_wp2_with fail
 refine hc.out.mono ?_
 rintro r w1 ⟨rfl,own1,h1,t1⟩
 have c33:w1.cell? ⟨a.b,33,none⟩=some a.ov:=(Z00 h1.blk 33).trans (Zai a s' h1.ears)
 have z33:=h1.free 33
 have hl:=h1.lt
 obtain⟨h2,t2⟩:=h1.setOv
 have t3:Turn (JK K) own1 own1 w1 (w1.setCell ⟨a.b,33,none⟩ (.slice none 0 0)):=t2.mono fun o e=>by have:=h1.r.k16;unfold JK;omega
 have hg:Given own1 K (w1.setCell ⟨a.b,33,none⟩ (.slice none 0 0)) a.ov out:=by
  obtain⟨g1,g2,g3⟩:=h1.r.out
  refine⟨g1.chg Z23 t2.chg fun k hk e=>?_,g2,fun x hx=>⟨?_,(g3 x hx).2⟩⟩
  ·have:=g2 k hk;omega
  ·refine (g3 x hx).1.kept fun h0 k hk hlt=>t2.chg.block k hlt fun e=>?_
   have e1:=(g3 x hx).2 h0 k hk
   have:=h1.r.k16
   omega
 replace h1:=hd_ h1;replace h2:=hd_ h2;replace hg:=hd_ hg
 have t4:=hd_ (t1.trans t3)
 clear t1 t2 t3 hc;go_wp2
 go_ret
 exact⟨rfl,own1,h2.out,t4.out,hg.out⟩
end
end
section
open Go.RowKit
def okVs (u n:Int) (l:List Vt):Prop:=0≤u∧u≤1099511627776∧l.length≤Z0v (mkV l)∧∀ x ∈ l,1≤x.frm∧x.frm≤n∧0≤x.last∧x.last<u∧(Z2y x.lg).length=x.lg.length∧0≤x.com∧x.com≤(x.lg.length:Int)
structure Ok (c:Nat) (s:Nd):Prop where
 n3:3≤s.n
 n7:s.n≤7
 i1:1≤s.id
 in_:s.id≤s.n
 b1:1≤s.boot
 b2:s.boot≤1099511627776
 c0:0≤s.clock
 c1:s.clock≤c
 h0:0≤s.heard
 h1:s.heard≤s.clock
 d0:0≤s.dv
 d1:s.dv≤1099511627776
 l0:0≤s.last
 l1:s.last≤s.dv
 m0:0≤s.mem
 m1:s.mem<128
 lg:s.L.length≤60
 o0:0≤s.com
 o1:s.com≤s.L.length
 e0:0≤s.denied
 e1:s.denied≤1099511627776
 a0:0≤s.acked
 a1:s.acked<128
 j0:0≤s.jp
 j1:s.jp≤1099511627776
 vt:∀ u l,s.v=some (u,l)→okVs u s.n l
 q0:0≤s.pf.num
 q1:s.pf.num≤s.boot*1048576+c
 qa:s.pf.asked.length≤64
theorem Z8g (l:List VtS):Z0v (mkV (l.map VtS.v))=Z0v l:=by
 unfold Z0v mkV
 rw [List.map_map,List.map_map];rfl
theorem okV_mk (u n:Int) (l:List VtS) (x:Vt):okV u n (mkV (l.map VtS.v)) x=okV u n l x:=by
 unfold okV;rw [Z8g]
theorem mkV_snoc (l:List Vt) (x:Vt):mkV (l++[x])=mkV l++mkV [x]:=by unfold mkV;rw [List.map_append]
theorem Z9d {u n:Int} {l:List Vt} (h:okVs u n l) (hn:n≤7) (x:Vt):okVs u n (Zbx u n l x):=by
 unfold Zbx
 cases hok:okV u n (mkV l) x
 ·exact h
 ·obtain⟨h1,h2,h3,h4⟩:=h
  have hx:=hok
  unfold okV at hx
  simp only [Bool.and_eq_true,decide_eq_true_eq,Bool.not_eq_true'] at hx
  obtain⟨⟨⟨⟨⟨⟨⟨x1,x2⟩,x3⟩,x4⟩,x5⟩,x6⟩,x7⟩,x8⟩:=hx
  refine⟨h1,h2,?_,fun y hy=>?_⟩
  ·show (l++[x]).length≤Z0v (mkV (l++[x]))
   rw [mkV_snoc,show mkV [x]=[⟨x, .slice none 0 0⟩] from rfl,Z8b,Zhq (Z31 _) x1 (by show x.frm≤7;omega) x3]
   have:=Nat.two_pow_pos (x.frm.toNat-1)
   simp only [List.length_append,List.length_singleton]
   show l.length+1≤Z0v (mkV l)+2 ^ (x.frm.toNat-1)
   omega
  ·rcases List.mem_append.1 hy with h | h
   ·exact h4 y h
   ·obtain rfl:=List.mem_singleton.1 h
    exact⟨x1,x2,x4,x5,x6,x7,x8⟩
theorem okVs_len {u n:Int} {l:List Vt} (h:okVs u n l):l.length≤127:=by
 have:=Z31 (mkV l)
 have:=h.2.2.1
 omega
noncomputable def clsO (own:Nat→Nat) (n n':Nat) (f:Nat→Nat):Nat→Nat:=fun c=>if c<n then own c else if c<n' then f c else 0
theorem Turn.cls {J:Nat→Prop} {own:Nat→Nat} {w w':World} (f:Nat→Nat) (h:Chg (fun c=>J (own c)) w w'):Turn J own (clsO own w.heap.size w'.heap.size f) w w':=
 ⟨h,fun c hc=>by unfold clsO;rw [if_pos hc],fun c hc=>by have:=h.size;unfold clsO;rw [if_neg (by omega),if_neg (by omega)]⟩
section
variable {own:Nat→Nat} {K:Nat} {w:World} {a:NdAt} {s:Nd} {out:List MsS}
theorem NdO.votes (h:NdO own K w a s out) {u:Int} {l:List Vt} {vb:Nat} (hv:s.v=some (u,l)) (ha:a.v=some vb) :
  ∃ ls:List VtS,l=ls.map VtS.v∧vtO 173 184 w (Is own (K+8)) (Is own (K+9)) vb u s.n ls:=by
 have:=h.r.vt
 rw [hv,ha] at this
 exact this
theorem NdO.vsome (h:NdO own K w a s out) {u:Int} {l:List Vt} (hv:s.v=some (u,l)):∃ vb,a.v=some vb:=by
 have:=h.r.vt
 rw [hv] at this
 cases hav:a.v with
 | none=>rw [hav] at this;exact this.elim
 | some vb=>exact⟨vb,rfl⟩
theorem NdO.vnone (h:NdO own K w a s out) (hv:s.v=none):a.v=none:=by
 have:=h.r.vt
 rw [hv] at this
 cases hav:a.v with
 | none=>rfl
 | some vb=>rw [hav] at this;exact this.elim
open Classical in
theorem ndVAdd (h:NdO own K w a s out) {u:Int} {l:List Vt} {vb:Nat} (hv:s.v=some (u,l)) (ha:a.v=some vb) (hok:okVs u s.n l) (x:Vt) (v:Value) (hs:rdE w v x.lg) :
  Calls Tryz.prog 139 #[Z09 vb,x.val v] w fun r w'=>r=.returned (.bool (okV u s.n (mkV l) x))∧∃ own',NdO own' K w' a { s with v:=some (u,Zbx u s.n l x) } out∧Turn (JK K) own own' w w':=by
 obtain⟨ls,rfl,i0⟩:=h.votes hv ha
 have hk:=h.r.k16
 have e0:=okVs_len hok
 rw [List.length_map] at e0
 have d0:∀ k j,j≠0→own k=j→k<w.heap.size:=fun k j hj e=>Nat.lt_of_not_le fun hge=>by rw [h.wf k hge] at e;exact hj e.symm
 refine (vAdd_any vb u s.n ls x v _ _ w i0 (fun k hk2=>by rcases hk2 with e | e;exact d0 k _ (by omega) e;exact d0 k _ (by omega) e) hs (by omega)).mono ?_
 rintro r w' ⟨rfl,a0⟩
 rw [okV_mk]
 refine⟨rfl,?_⟩
 unfold Zbx Za5 at *
 rw [okV_mk]
 cases hb:okV u s.n ls x
 ·rw [hb] at a0
  simp only [Bool.false_eq_true,if_false] at a0 ⊢
  have e:({ s with v:=some (u,ls.map VtS.v) }:Nd)=s:=by rw [← hv]
  rw [e]
  exact⟨own,h.grow a0, .grow a0 h.wf⟩
 ·rw [hb] at a0
  simp only [if_true] at a0 ⊢
  obtain⟨s',F',D',c0,g0,f0,hc⟩:=a0
  have t:=Turn.cls (J:=fun o=>o=K+8) (own:=own) (fun c=>if F' c then K+8 else if D' c then K+9 else 0) hc
  have b0:vtO 173 184 w' (Is (clsO own w.heap.size w'.heap.size fun c=>if F' c then K+8 else if D' c then K+9 else 0) (K+8)) (Is (clsO own w.heap.size w'.heap.size fun c=>if F' c then K+8 else if D' c then K+9 else 0) (K+9)) vb u s.n (ls++[⟨x,s'⟩]):=by
   refine c0.monoF (fun k hk'=>?_) (fun k hk'=>?_) (fun k h1 h2=>?_)
   ·show clsO _ _ _ _ k=K+8
    rcases g0 k hk' with e | ⟨e1,e2⟩
    ·unfold clsO;rw [if_pos (d0 k _ (by omega) e)];exact e
    ·unfold clsO;rw [if_neg (by omega),if_pos e2];exact if_pos hk'
   ·show clsO _ _ _ _ k=K+9
    rcases f0 k hk' with e | ⟨e1,e2⟩ | e
    ·unfold clsO;rw [if_pos (d0 k _ (by omega) e)];exact e
    ·unfold clsO;rw [if_neg (by omega),if_pos e2];exact (if_neg (fun hf=>c0.2.1 k hf hk')).trans (if_pos hk')
    ·exact e.elim
   ·have e1:clsO own w.heap.size w'.heap.size (fun c=>if F' c then K+8 else if D' c then K+9 else 0) k=K+8:=h1
    have e2:clsO own w.heap.size w'.heap.size (fun c=>if F' c then K+8 else if D' c then K+9 else 0) k=K+9:=h2
    omega
  have e:=h.r.putV (u:=u) (t.mono (J':=fun o=>o=K∨o=K+8∨o=K+9) fun o e=>.inr (.inl e)) ⟨ls++[⟨x,s'⟩],rfl,b0⟩
  have e2:({ a with v:=some vb }:NdAt)=a:=by rw [← ha]
  rw [e2] at e
  refine⟨_,⟨?_,h.ears,?_⟩,t.mono fun o e=>by unfold JK;omega⟩
  ·have h0:=t.pub h.blk (by rw [h.r.ob];omega)
   exact h0
  ·rw [show List.map VtS.v ls++[x]=List.map VtS.v (ls++[⟨x,s'⟩]) by rw [List.map_append];rfl]
   exact e
end
end
section
open Go.RowKit
section
variable {own:Nat→Nat} {K:Nat} {w:World} {a:NdAt} {s:Nd} {out:List MsS}
theorem Z61 (h:NdO own K w a s out) (T:Nat) (hT:T<128) (fn:FuncId) (pre caps:Array Value) (hfn:∀ args w,(callFunc fn args).run Tryz.prog w=.ok (.enter fn args) w) (f:Int→Ms)
  (hst:∀ own1 a1 out1 w1 k,NdO own1 K w1 a1 s out1→At0 a a1→Turn (JK K) own own1 w w1→out1.length≤out.length+7→k ∈ Z16 s.id s.n T →
   Calls Tryz.prog fn (pre.push (.int .i64 k)++caps) w1 fun r w2=>r=.returned (.tuple #[])∧∃ own2 a2 o2,NdO own2 K w2 a2 s o2∧o2.map MsS.m=out1.map MsS.m++[f k]∧At0 a1 a2∧Turn (JK K) own1 own2 w1 w2) :
  Calls Tryz.prog 125 #[Z09 a.b, .int .i64 (T:Int), .func (.func fn) pre caps] w fun r w'=>r=.returned (.tuple #[])∧Stp own K w a w' s (out.map MsS.m++(Z16 s.id s.n T).map f):=by
 have e0:=h.r.k16
 have hle:(Z16 s.id s.n T).length≤7:=Nat.le_trans (List.length_filter_le _ _) (Z38 T 7)
 refine (Z4s a.b s.id s.n T hT fn pre caps hfn (fun wb l w1=>∃ own1 a1 o1,NdO own1 K w1 a1 s o1∧o1.map MsS.m=out.map MsS.m++l.map f∧At0 a a1∧Turn (JK K) own own1 w w1 ∧
   ∀ c,w.heap.size≤c→c<wb.heap.size→own1 c=0∧c<w1.heap.size∧w1.heap[c]?=wb.heap[c]?) w ?_ (h.c 0) ?_ ?_ ?_).mono ?_
 ·exact fun wb hb=>⟨own,a,out,h.grow hb,by simp, .refl a, .grow hb h.wf,fun c h1 h2=>⟨h.wf c h1,h2,rfl⟩⟩
 ·rintro wb l w1 ⟨own1,a1,o1,h1,e1,e2,e3,e4⟩
  exact⟨h1.cb e2.b 0,h1.cb e2.b 1⟩
 ·rintro wb l w1 ⟨own1,a1,o1,h1,e1,e2,e3,e4⟩ c b0 c0
  exact (e4 c b0 c0).2.2
 ·rintro wb l k w1 ⟨own1,a1,o1,h1,e1,e2,e3,e4⟩ a0
  have hk:k ∈ Z16 s.id s.n T:=a0.subset (by simp)
  have d0:o1.length≤out.length+7:=by
   have:=congrArg List.length e1
   simp only [List.length_map,List.length_append] at this
   have:=a0.length_le
   simp only [List.length_append,List.length_singleton] at this
   omega
  refine (hst own1 a1 o1 w1 k h1 e2 e3 d0 hk).mono ?_
  rintro r w2 ⟨rfl,own2,a2,o2,h2,f1,f2,f3⟩
  refine⟨rfl,own2,a2,o2,h2,by rw [f1,e1,List.map_append,List.append_assoc];rfl,e2.trans f2,e3.trans f3,fun c b0 c0=>?_⟩
  obtain⟨g1,g2,g3⟩:=e4 c b0 c0
  exact⟨(f3.old c g2).trans g1,Nat.lt_of_lt_of_le g2 f3.chg.size,(f3.chg.block c g2 (by rw [g1];exact jk0 e0)).trans g3⟩
 ·rintro r w' ⟨rfl,wb,hb,own1,a1,o1,h1,e1,e2,e3,e4⟩
  exact⟨rfl,own1,a1,o1,h1,e1,e2,e3⟩
theorem Z6n (h:NdO own K w a s out) (m:Ms) (sa:Option Addr) (sc:Nat) (hs:pubE own w (.slice sa m.ents.length sc) m.ents) (hl:out.length≤1000000000) :
  Calls Tryz.prog 116 #[Z09 a.b,Z0w m (.slice sa m.ents.length sc)] w fun r w'=>r=.returned (.tuple #[])∧∃ own2 a2 o2,NdO own2 K w' a2 s o2∧o2.map MsS.m=out.map MsS.m++[{ m with frm:=s.id,boot:=s.boot }]∧At0 a a2∧Turn (JK K) own own2 w w':=by
 refine (Ze5 own K a s out m sa sc w h hs.1 hs.2 hl).mono ?_
 rintro r w' ⟨rfl,own',ov,h1,t⟩
 exact⟨rfl,own',_,_,h1,by rw [List.map_append];rfl,⟨rfl,rfl,rfl,rfl,rfl⟩,t.mono fun o e=>by unfold JK;omega⟩
theorem Z4e (own:Nat→Nat) (w:World):pubE own w (.slice none 0 0) []:=⟨⟨none,0,rfl,Nat.le_refl _,Nat.zero_le _,fun h=>by simp at h⟩,fun h=>by simp at h⟩
end
end
section
open Go.RowKit
section
variable {own:Nat→Nat} {K:Nat} {w:World} {a:NdAt} {s:Nd} {out:List MsS}
theorem NdO.s4 (h:NdO own K w a s out) (x:Int):NdO own K (w.setCell ⟨a.b,4,none⟩ (.int .i64 x)) a { s with clock:=x } out∧Turn (fun i=>i=K) own own w (w.setCell ⟨a.b,4,none⟩ (.int .i64 x)):=
 h.set 4 _ (by unfold ndC;rw [List.setIfInBounds_toArray];rfl) rfl h.ears fun r=>r.re _ rfl
theorem NdO.s5 (h:NdO own K w a s out) (x:Int):NdO own K (w.setCell ⟨a.b,5,none⟩ (.int .i64 x)) a { s with heard:=x } out∧Turn (fun i=>i=K) own own w (w.setCell ⟨a.b,5,none⟩ (.int .i64 x)):=
 h.set 5 _ (by unfold ndC;rw [List.setIfInBounds_toArray];rfl) rfl h.ears fun r=>r.re _ rfl
theorem NdO.s10 (h:NdO own K w a s out) (x:Int):NdO own K (w.setCell ⟨a.b,10,none⟩ (.int .i64 x)) a { s with com:=x } out∧Turn (fun i=>i=K) own own w (w.setCell ⟨a.b,10,none⟩ (.int .i64 x)):=
 h.set 10 _ (by unfold ndC;rw [List.setIfInBounds_toArray];rfl) rfl h.ears fun r=>r.re _ rfl
theorem NdO.s11 (h:NdO own K w a s out) (x:Int):NdO own K (w.setCell ⟨a.b,11,none⟩ (.int .i64 x)) a { s with last:=x } out∧Turn (fun i=>i=K) own own w (w.setCell ⟨a.b,11,none⟩ (.int .i64 x)):=
 h.set 11 _ (by unfold ndC;rw [List.setIfInBounds_toArray];rfl) rfl h.ears fun r=>r.re _ rfl
theorem NdO.s12 (h:NdO own K w a s out) (x:Int):NdO own K (w.setCell ⟨a.b,12,none⟩ (.int .i64 x)) a { s with mem:=x } out∧Turn (fun i=>i=K) own own w (w.setCell ⟨a.b,12,none⟩ (.int .i64 x)):=
 h.set 12 _ (by unfold ndC;rw [List.setIfInBounds_toArray];rfl) rfl h.ears fun r=>r.re _ rfl
theorem NdO.s17n (h:NdO own K w a s out):NdO own K (w.setCell ⟨a.b,17,none⟩ (.pointer none)) { a with v:=none } { s with v:=none } out∧Turn (fun i=>i=K) own own w (w.setCell ⟨a.b,17,none⟩ (.pointer none)):=
 h.set 17 _ (by unfold ndC;rw [List.setIfInBounds_toArray];rfl) rfl h.ears fun r=>r.noV
theorem NdO.s18 (h:NdO own K w a s out) (x:Int):NdO own K (w.setCell ⟨a.b,18,none⟩ (.int .i64 x)) a { s with denied:=x } out∧Turn (fun i=>i=K) own own w (w.setCell ⟨a.b,18,none⟩ (.int .i64 x)):=
 h.set 18 _ (by unfold ndC;rw [List.setIfInBounds_toArray];rfl) rfl h.ears fun r=>r.re _ rfl
theorem NdO.s19 (h:NdO own K w a s out) (x:Bool):NdO own K (w.setCell ⟨a.b,19,none⟩ (.bool x)) a { s with again:=x } out∧Turn (fun i=>i=K) own own w (w.setCell ⟨a.b,19,none⟩ (.bool x)):=
 h.set 19 _ (by unfold ndC;rw [List.setIfInBounds_toArray];rfl) rfl h.ears fun r=>r.re _ rfl
theorem NdO.s20 (h:NdO own K w a s out) (x:Bool):NdO own K (w.setCell ⟨a.b,20,none⟩ (.bool x)) a { s with mine:=x } out∧Turn (fun i=>i=K) own own w (w.setCell ⟨a.b,20,none⟩ (.bool x)):=
 h.set 20 _ (by unfold ndC;rw [List.setIfInBounds_toArray];rfl) rfl h.ears fun r=>r.re _ rfl
theorem NdO.s22 (h:NdO own K w a s out) (x:Int):NdO own K (w.setCell ⟨a.b,22,none⟩ (.int .i64 x)) a { s with start:=x } out∧Turn (fun i=>i=K) own own w (w.setCell ⟨a.b,22,none⟩ (.int .i64 x)):=
 h.set 22 _ (by unfold ndC;rw [List.setIfInBounds_toArray];rfl) rfl h.ears fun r=>r.re _ rfl
theorem NdO.s23 (h:NdO own K w a s out) (x:Int):NdO own K (w.setCell ⟨a.b,23,none⟩ (.int .i64 x)) a { s with acked:=x } out∧Turn (fun i=>i=K) own own w (w.setCell ⟨a.b,23,none⟩ (.int .i64 x)):=
 h.set 23 _ (by unfold ndC;rw [List.setIfInBounds_toArray];rfl) rfl h.ears fun r=>r.re _ rfl
theorem NdO.s32n (h:NdO own K w a s out):NdO own K (w.setCell ⟨a.b,32,none⟩ (.slice none 0 0)) { a with av:=.slice none 0 0 } { s with asked:=[] } out∧Turn (fun i=>i=K) own own w (w.setCell ⟨a.b,32,none⟩ (.slice none 0 0)):=
 h.set 32 _ (by rw [Z7a a s h.ears];rfl) rfl h.ears fun r=>r.noA
theorem NdO.sear (h:NdO own K w a s out) (i:Nat) (hi:i<8) (x:Int):NdO own K (w.setCell ⟨a.b,24+i,none⟩ (.int .i64 x)) a { s with ears:=s.ears.set i x } out∧Turn (fun i=>i=K) own own w (w.setCell ⟨a.b,24+i,none⟩ (.int .i64 x)):=
 h.set (24+i) _ (Zfo a s h.ears i hi x) rfl (by show (s.ears.set i x).length=8;rw [List.length_set];exact h.ears) fun r=>r.re _ rfl
theorem jkK {K:Nat}:∀ o,o=K→JK K o:=fun o e=>by unfold JK;omega
theorem NdO.newV (h:NdO own K w a s out) (u:Int) (hv:vtO 173 184 (w.alloc (.cells #[.int .i64 u, .int .i64 s.n, .slice none 0 0] 173)) (fun k=>k=w.heap.size) (fun _=>False) w.heap.size u s.n []) :
  ∃ own',NdO own' K ((w.alloc (.cells #[.int .i64 u, .int .i64 s.n, .slice none 0 0] 173)).setCell ⟨a.b,17,none⟩ (Z09 w.heap.size)) { a with v:=some w.heap.size } { s with v:=some (u,[]) } out ∧
    Turn (JK K) own own' w ((w.alloc (.cells #[.int .i64 u, .int .i64 s.n, .slice none 0 0] 173)).setCell ⟨a.b,17,none⟩ (Z09 w.heap.size)):=by
 have hk:=h.r.k16
 have t:=Turn.extJ (own:=own) (J:=fun o=>o=K) (K+8) (w:=w) (w':=(w.alloc (.cells #[.int .i64 u, .int .i64 s.n, .slice none 0 0] 173)).setCell ⟨a.b,17,none⟩ (Z09 w.heap.size)) (Z06 (.of_below ((Below.refl _ _).alloc (Nat.le_refl _) _)) h.r.ob)
 have hl:=h.lt
 have a0:vtO 173 184 ((w.alloc (.cells #[.int .i64 u, .int .i64 s.n, .slice none 0 0] 173)).setCell ⟨a.b,17,none⟩ (Z09 w.heap.size)) (fun k=>k=w.heap.size) (fun _=>False) w.heap.size u s.n []:=
  hv.chg (G:=fun k=>k=a.b) (Z06 (Chg.refl _ _) rfl) (fun k e=>by omega) (fun k e=>e.elim)
 have hs:((w.alloc (.cells #[.int .i64 u, .int .i64 s.n, .slice none 0 0] 173)).setCell ⟨a.b,17,none⟩ (Z09 w.heap.size)).heap.size=w.heap.size+1:=by rw [World.size_setCell,World.size_alloc]
 rw [hs] at t
 refine⟨_,⟨?_,h.ears,h.r.putV (t.mono fun o e=>.inl e) ⟨[],rfl,a0.monoF (fun k e=>?_) (fun k e=>e.elim) (fun k e1 e2=>?_)⟩⟩,t.mono jkK⟩
 ·have:=Z0d (o:=17) (u:=Z09 w.heap.size) (Z4l (.cells #[.int .i64 u, .int .i64 s.n, .slice none 0 0] 173) h.blk)
  rw [this]
  unfold ndC
  rw [List.setIfInBounds_toArray];rfl
 ·subst e
  exact Z20 (by omega) (by omega)
 ·have h1:Z5q own w.heap.size (w.heap.size+1) (K+8) k=K+8:=e1
  have h2:Z5q own w.heap.size (w.heap.size+1) (K+8) k=K+9:=e2
  omega
end
end
section
open Go.RowKit
section
variable {own:Nat→Nat} {K:Nat} {w:World} {a:NdAt} {s:Nd} {out:List MsS}
theorem Ziv (n:Int) (h3:3≤n) (h7:n≤7):wrap64 (wrap64 (2 ^ n.toNat)-1)=((2 ^ n.toNat-1:Nat):Int):=by
 rcases (by omega:n=3∨n=4∨n=5∨n=6∨n=7) with rfl | rfl | rfl | rfl | rfl
 all_goals decide +kernel
theorem Zcm (w:World) (o:Obj) (p:Addr) (u:Value):Chg Z1j (w.alloc o) ((w.setCell p u).alloc o):=⟨rfl,rfl,rfl,by simp [World.size_setCell],fun k _ hF=>absurd trivial hF⟩
theorem Z8h (w:World) (o o':Obj):Chg Z1j (w.alloc o) (w.alloc o'):=⟨rfl,rfl,rfl,by simp,fun k _ hF=>absurd trivial hF⟩
theorem Z9e (h:NdO own K w a s out) (k u:Int) (b pb nb:Nat) (hb:a.b=b) (h1:w.heap[pb]?=some (.cells #[Z09 b] 30 (0,0))) (h2:w.heap[nb]?=some (.cells #[.int .i64 u] 2 (0,0))) (hl:out.length≤1000000000) :
  Calls Tryz.prog 141 #[.int .i64 k, .pointer (some ⟨pb,0,none⟩), .pointer (some ⟨nb,0,none⟩)] w fun r w'=>r=.returned (.tuple #[])∧∃ own2 a2 o2,NdO own2 K w' a2 s o2∧o2.map MsS.m=out.map MsS.m++[{ s.ms 1 k with view:=u }]∧At0 a a2∧Turn (JK K) own own2 w w':=by
 subst hb
 have c1:w.cell? ⟨pb,0,none⟩=some (Z09 a.b):=Z00 h1 0
 have c2:w.cell? ⟨nb,0,none⟩=some (.int .i64 u):=Z00 h2 0
 have l1:=Z04 h1
 have l2:=Z04 h2
 have hS:=hd_ (Z6n h ⟨1,0,k,0,u,0,0,0,[],0,0,0,false⟩ none 0 (Z4e own w) hl)
 clear h h1 h2
 go_enter Tryz.func141,Tryz.ntmps141
 go_wp2_with fail
 refine hS.out.mono ?_
 rintro r w1 ⟨rfl,h⟩;replace h:=hd_ h;go_wp2
 go_end0
 exact⟨rfl,h.out⟩
theorem Z43 (c:Nat) (h:NdO own K w a s out) (hok:Ok c s) (hl:out.length≤1000000) :
  Calls Tryz.prog 76 #[Z09 a.b] w fun r w'=>r=.returned (.tuple #[])∧Stp own K w a w' s.propose.1 (out.map MsS.m++s.propose.2):=by
 have y5:=hok.n3
 have g3:=hok.n7
 have n5:=hok.i1
 have o5:=hok.in_
 have hd0:=hok.d0
 have hd1:=hok.d1
 have he0:=hok.e0
 have he1:=hok.e1
 have o1:=h.r.k16
 obtain⟨v0,z1⟩:∃ v0,max s.dv s.denied+1=v0:=⟨_,rfl⟩
 have l6:1≤v0∧v0≤1099511627777:=by omega
 obtain⟨U,hU⟩:∃ U,s.nextV=U:=⟨_,rfl⟩
 have i2:upV s.id s.n 7 v0=U:=by rw [← z1];exact hU
 have j3:=Zcg y5 g3 n5 o5 l6.1
 have x4:=Zik s.id s.n 7 v0
 rw [i2] at x4
 have k1:=Zil 7 j3
 rw [i2] at k1
 obtain⟨W0,j2⟩:∃ W,W=w.alloc (.cells #[Z09 a.b] 30):=⟨_,rfl⟩
 have g2:Below w.heap.size w W0:=j2 ▸ (Below.refl _ _).alloc (Nat.le_refl _) _
 have i3:W0.heap[w.heap.size]?=some (.cells #[Z09 a.b] 30 (0,0)):=j2 ▸ Z0a _ _
 obtain⟨pb,f2⟩:∃ pb,pb=w.heap.size:=⟨_,rfl⟩
 rw [← f2] at i3
 have i5:=hd_ (h.grow g2)
 have hdv:=h.dv
 replace h:=hd_ h;replace hok:=hd_ hok;replace i3:=hd_ i3;replace g2:=hd_ g2;replace z1:=hd_ z1;replace hU:=hd_ hU;replace i2:=hd_ i2;replace j3:=hd_ j3;replace k1:=hd_ k1;replace f2:=hd_ f2
 go_enter Tryz.func76,Tryz.ntmps76
 go_upto_region 1 with (fail)
 rw [← j2,← f2.out]
 replace j2:=hd_ j2
 go_cut [2] (fun z wx=>∃ nb,z=.pointer (some ⟨nb,0,none⟩)∧wx.heap[nb]?=some (.cells #[.int .i64 v0] 2 (0,0))∧wx.heap[pb]?=some (.cells #[Z09 a.b] 30 (0,0))∧pb≠nb∧w.heap.size≤nb∧Below w.heap.size w wx)
 case first=>
  have v5:0≤max s.dv s.denied:=by omega
  have x5:max s.dv s.denied≤1099511627776:=by omega
  go_upto_region 1 with (fail)
  refine Z05 (fun _=>False) (.q 0 (.q 1 (.q 2 (.q 3 (.q 5 (.q 6 (.q 7 (.q 8 (.two 4 (.q 9 (.q 10 (.l 11 (.cut (.l 12 .fin))))) 11 (.l 4 (.q 9 (.q 10 (.cut (.l 12 .fin)))))))))))))) (by kernel_rfl) (by kernel_rfl) ?_
  intro w1 q3 x0
  have p0:=i5.out.grow x0
  have u2:=Z01 (F:=fun _=>False) (b:=w1) (fun h=>h) (show w1.cell? ⟨a.b,2,none⟩=some (.pointer (some ⟨a.dk,a.od,none⟩)) from p0.c 2)
  have u18:=Z01 (F:=fun _=>False) (b:=w1) (fun h=>h) (show w1.cell? ⟨a.b,18,none⟩=some (.int .i64 s.denied) from p0.c 18)
  have r5:=p0.lt
  have d2:=Z02 i3.out x0
  have up:=Z01 (F:=fun _=>False) (b:=w1) (fun h=>h) (show w1.cell? ⟨pb,0,none⟩=some (Z09 a.b) from Z00 d2 0)
  have v1:=p0.dv
  have m1:=Z04 d2
  have n0:=hd_ (g2.out.trans (x0.mono g2.out.size))
  replace d2:=hd_ d2;replace p0:=hd_ p0;clear q3;replace x0:=hd_ x0;iterate 8 (refine Z0n rfl ?_;go_big_quiet_step (fail);refine wpQuiet_nil ?_)
  refine Zhh ?_ ?_
  ·refine Z0j rfl (by kernel_rfl) ?_
   intro K1 hK;go_simp
   refine (Z1m a.dk a.od s.dv w1 v1).mono ?_
   rintro r w2 ⟨rfl,rfl⟩
   refine hK _ _ (Chg.refl _ _) ?_
   clear hK K1;refine Z0n rfl ?_;go_big_quiet_step (fail);refine wpQuiet_nil ?_;refine Z0n rfl ?_;go_big_quiet_step (fail);refine wpQuiet_nil ?_;refine Z0j rfl (by kernel_rfl) ?_;intro K1 hK;go_simp
   refine hK _ _ (Z1a (Chg.refl _ _)) ?_
   clear hK K1;refine Z0h Z1j ?_;refine Z0j rfl (by kernel_rfl) ?_;intro K1 hK;go_simp
   refine hK _ _ (Z8h _ _ _) ?_
   clear hK K1;refine Z0c ?_;go_wp2_with fail
   go_meet
   exact⟨w1.heap.size,rfl,z1.out ▸ Z0a _ _,Z4l _ d2.out,by omega,n0.out.size,n0.out.alloc n0.out.size _⟩
  ·refine Z0j rfl (by kernel_rfl) ?_
   intro K1 hK;go_simp
   refine hK _ _ (Z1a (Chg.refl _ _)) ?_
   clear hK K1;refine Z0j rfl (by kernel_rfl) ?_;intro K1 hK;go_simp
   refine (Z1m a.dk a.od s.dv _ (by rw [((Below.refl w1.heap.size w1).alloc (Nat.le_refl _) _).cell (Z0f v1)];exact v1)).mono ?_
   rintro r w2 ⟨rfl,rfl⟩
   refine hK _ _ (Z1a (Chg.refl _ _)) ?_
   clear hK K1;refine Z0n rfl ?_;go_big_quiet_step (fail);refine wpQuiet_nil ?_;refine Z0n rfl ?_;go_big_quiet_step (fail);refine wpQuiet_nil ?_;refine Z0h Z1j ?_;refine Z0j rfl (by kernel_rfl) ?_;intro K1 hK;go_simp
   refine hK _ _ (Z8h _ _ _) ?_
   clear hK K1;refine Z0c ?_;go_wp2_with fail
   go_meet
   exact⟨w1.heap.size,rfl,z1.out ▸ Z0a _ _,Z4l _ d2.out,by omega,n0.out.size,n0.out.alloc n0.out.size _⟩
 case rest=>
  obtain⟨nb,rfl,e4,l4,c6,l2,p3⟩:=hcut
  rename World=>wz
  replace e4:=hd_ e4;replace l4:=hd_ l4;replace p3:=hd_ p3;go_wp2
  go_loopw [14] (fun _ wr=>∃ (f:Nat) (u:Int),upV s.id s.n f u=U∧Zij s.id s.n f u∧v0≤u∧u≤U∧wr.heap[nb]?=some (.cells #[.int .i64 u] 2 (0,0))∧wr.heap[pb]?=some (.cells #[Z09 a.b] 30 (0,0))∧Below w.heap.size w wr) (fun _ wr=>(U-intOf ((wr.cell? ⟨nb,0,none⟩).getD (.int .i64 0))).toNat)
  case atStart=>exact⟨7,v0,i2.out,j3.out,Int.le_refl _,x4.1,e4.out,l4.out,p3.out⟩
  case round=>
   obtain⟨f,u,k2,f3,hvu,huU,t0,w0,a2⟩:=hrel
   have c3:=hd_ (h.out.grow a2)
   have c0:wr.cell? ⟨a.b,0,none⟩=some (.int .i64 s.id):=c3.out.c 0
   have c1:wr.cell? ⟨a.b,1,none⟩=some (.int .i64 s.n):=c3.out.c 1
   have cn:wr.cell? ⟨nb,0,none⟩=some (.int .i64 u):=Z00 t0 0
   have m5:=hd_ cn
   have cp:wr.cell? ⟨pb,0,none⟩=some (Z09 a.b):=Z00 w0 0
   have la:=c3.out.lt
   have ln:=Z04 t0
   have lp:=Z04 w0
   have hD:Hid (∀ y,Calls Tryz.prog 89 #[.int .i64 u, .int .i64 s.n] (Z1c wr y) fun r w'=>r=.returned (.int .i64 (Z1y u s.n))∧∃ z,w'=Z1c wr z):=hd_ fun y=>Z0o (Z0p u s.n _ (by omega) (by omega))
   replace t0:=hd_ t0;replace w0:=hd_ w0;replace a2:=hd_ a2;replace k2:=hd_ k2;replace f3:=hd_ f3;go_upto_region 2 with (fail)
   have u0:=Z07 c0
   have u1:=Z07 c1
   have un:=Z07 cn
   have up:=Z07 cp
   refine Z08 (by kernel_rfl) (by kernel_rfl) ?_
   repeat (go_big_quiet_step (first | (go_at_call 89;exact hD.out _) | fail))
   refine wpQuiet_nil ?_
   intro w3 f5
   have e3:=Z0e f5
   have o3:=hd_ (a2.out.trans (e3.mono a2.out.size))
   have l0:=Z02 t0.out e3
   have n1:=Z02 w0.out e3
   have t4:=hd_ (h.out.grow o3.out)
   clear f5 e3 u0 u1 un up c0 c1 cn cp la ln lp c3 t0 w0 a2 hD
   by_cases hid:Z1y u s.n=s.id
   case neg=>
    have hb:(Z1y u s.n != s.id)=true:=by simpa using hid
    obtain⟨f',rfl,m4,v4⟩:=Ze7 hid f3.out
    have l1:upV s.id s.n f' (u+1)=U:=by rw [← v4];exact k2.out
    have m2:=Zik s.id s.n f' (u+1)
    rw [l1] at m2
    have cn:w3.cell? ⟨nb,0,none⟩=some (.int .i64 u):=Z00 l0 0
    have zn:=Z03 l0 0
    have ln:=Z04 l0
    have r2:=hd_ (show (w3.setCell ⟨nb,0,none⟩ (.int .i64 (u+1))).heap[nb]?=some (.cells #[.int .i64 (u+1)] 2 (0,0)) from Z0d l0)
    have i4:=hd_ (show (w3.setCell ⟨nb,0,none⟩ (.int .i64 (u+1))).heap[pb]?=some (.cells #[Z09 a.b] 30 (0,0)) from Z0u n1 c6)
    have h5:=hd_ (show Below w.heap.size w (w3.setCell ⟨nb,0,none⟩ (.int .i64 (u+1))) from o3.out.setCell l2 _)
    have m3:(w3.setCell ⟨nb,0,none⟩ (.int .i64 (u+1))).cell? ⟨nb,0,none⟩=some (.int .i64 (u+1)):=Z00 r2.out 0
    replace m3:=hd_ m3;replace l1:=hd_ l1;replace m4:=hd_ m4;clear hid v4;go_wp2
    go_roundw
    case rel=>exact⟨f',u+1,l1.out,m4.out,by omega,m2.1,r2.out,i4.out,h5.out⟩
    case measure=>rw [m3.out,m5.out];simp [intOf];omega
   obtain rfl:u=U:=by
    have:=Ze6 f hid
    rw [k2.out] at this
    exact this.symm
   have hb:(Z1y u s.n != s.id)=false:=by simpa using hid
   clear hid k2 f3;replace l0:=hd_ l0;replace n1:=hd_ n1
   have l3:=h.out.wf
   have k4:own pb=0:=l3 pb (by have:=f2.out;omega)
   have f4:own nb=0:=l3 nb l2
   replace l3:=hd_ l3
   have g6:=hd_ (Turn.grow (J:=JK K) (own:=own) o3.out h.out.wf)
   go_upto_region 4 with (fail)
   refine Z05 (fun _=>False) (.q 0 (.q 1 (.q 2 (.q 3 (.q 4 (.cut (.l 5 (.q 6 .fin)))))))) (by kernel_rfl) (by kernel_rfl) ?_
   intro w4 r3 q0
   have k0:=t4.out.grow q0
   have u2:=Z01 (F:=fun _=>False) (b:=w4) (fun h=>h) (show w4.cell? ⟨a.b,2,none⟩=some (.pointer (some ⟨a.dk,a.od,none⟩)) from k0.c 2)
   have x3:=k0.lt
   have v2:=Z02 n1.out q0
   have q2:=Z02 l0.out q0
   have up:=Z01 (F:=fun _=>False) (b:=w4) (fun h=>h) (show w4.cell? ⟨pb,0,none⟩=some (Z09 a.b) from Z00 v2 0)
   have un:=Z01 (F:=fun _=>False) (b:=w4) (fun h=>h) (show w4.cell? ⟨nb,0,none⟩=some (.int .i64 u) from Z00 q2 0)
   have m1:=Z04 v2
   have v3:=Z04 q2
   have d5:=hd_ (g6.out.trans (Turn.grow (J:=JK K) q0 t4.out.wf))
   replace v2:=hd_ v2;replace q2:=hd_ q2;replace k0:=hd_ k0;clear r3;replace q0:=hd_ q0;iterate 5 (refine Z0n rfl ?_;go_big_quiet_step (fail);refine wpQuiet_nil ?_)
   refine Z0h Z1j ?_;refine Z0j rfl (by kernel_rfl) ?_;intro K1 hK;go_simp
   by_cases hmx:1099511627776<u
   case pos=>
    refine (Z7b a.dk a.od s.dv u _ k0.out.dv (.inr hmx)).mono ?_
    rintro r w5 ⟨rfl,rfl⟩
    refine hK _ _ (Chg.refl _ _) ?_
    clear hK K1;refine Z0n rfl ?_;go_big_quiet_step (fail);refine wpQuiet_nil ?_;refine Z0c ?_
    have a4:=hd_ hmx
    go_wp2
    refine bodyPost_ret (results_none rfl _ _ _) rfl ?_
    have hp:s.propose=(s,[]):=by unfold Nd.propose;rw [hU.out];exact if_pos (.inr a4.out)
    rw [hp]
    refine⟨rfl,?_⟩
    rw [List.append_nil]
    exact k0.out.stp (.refl a) d5.out
   refine (Z7c k0.out u (by have:=z1.out;omega) (by omega)).mono ?_
   rintro r w5 ⟨rfl,d3,t5⟩
   refine hK _ _ (Z0l t5) ?_
   clear hK K1;refine Z0n rfl ?_;go_big_quiet_step (fail);refine wpQuiet_nil ?_;refine Z0c ?_
   have d6:=hd_ (t5.pub v2.out (by rw [k4];omega))
   have a6:=hd_ (t5.pub q2.out (by rw [f4];omega))
   have h6:=hd_ (d5.out.trans (t5.mono fun o e=>by unfold JK;omega))
   replace d3:=hd_ d3;clear t5 u2 up un m1 v3 x3;go_upto_region 5 with (fail)
   refine Z05 (fun _=>False) (.q 0 (.q 1 (.q 2 (.q 3 (.q 4 (.q 5 (.l 6 (.q 7 (.q 8 (.cut (.l 9 .fin))))))))))) (by kernel_rfl) (by kernel_rfl) ?_
   intro w6 s3 r0
   have j0:=d3.out.grow r0
   have u1:=Z01 (F:=fun _=>False) (b:=w6) (fun h=>h) (show w6.cell? ⟨a.b,1,none⟩=some (.int .i64 s.n) from j0.c 1)
   have y3:=j0.lt
   have e2:=Z02 d6.out r0
   have c2:=Z02 a6.out r0
   have up:=Z01 (F:=fun _=>False) (b:=w6) (fun h=>h) (show w6.cell? ⟨pb,0,none⟩=some (Z09 a.b) from Z00 e2 0)
   have un:=Z01 (F:=fun _=>False) (b:=w6) (fun h=>h) (show w6.cell? ⟨nb,0,none⟩=some (.int .i64 u) from Z00 c2 0)
   have m1:=Z04 e2
   have v3:=Z04 c2
   have i6:=hd_ (h6.out.trans (Turn.grow (J:=JK K) r0 d3.out.wf))
   replace e2:=hd_ e2;replace c2:=hd_ c2;replace j0:=hd_ j0;clear s3;replace r0:=hd_ r0
   have n6:w6.cell? ⟨a.b,17,none⟩=some (Z3f a.v):=j0.out.c 17
   have s6:=j0.out.free 17
   iterate 6 (refine Z0n rfl ?_;go_big_quiet_step (fail);refine wpQuiet_nil ?_)
   refine Z0j rfl (by kernel_rfl) ?_;intro K1 hK;go_simp
   refine (vNew_any u s.n _ (by omega) (by omega)).mono ?_
   rintro r w7 m6
   rcases m6 with ⟨h0,_⟩ | ⟨_,rfl,k3,rfl⟩
   ·exfalso
    have:=k1.out
    omega
   replace k3:=hd_ k3
   refine hK _ _ (Z1a (Chg.refl _ _)) ?_
   clear hK K1;refine Z0n rfl ?_;go_big_quiet_step (fail);refine wpQuiet_nil ?_;refine Z0n rfl ?_;go_big_quiet_step (fail);refine wpQuiet_nil ?_;refine Z0h Z1j ?_;refine Z0j rfl (by kernel_rfl) ?_;intro K1 hK;go_simp
   obtain⟨own7,r1,t7⟩:=j0.out.newV u k3.out
   rw [World.setCell_alloc_past (hn:=j0.out.lt)] at r1 t7
   refine hK _ _ (Zcm _ _ _ _) ?_
   clear hK K1;refine Z0c ?_
   have b5:=hd_ (t7.pub e2.out (by rw [k4];exact jk0 o1))
   have g3:=hd_ (t7.pub c2.out (by rw [f4];exact jk0 o1))
   have e5:=hd_ (i6.out.trans t7)
   have z2:own7 pb=0:=(t7.old pb (Z04 e2.out)).trans k4
   have t2:own7 nb=0:=(t7.old nb (Z04 c2.out)).trans f4
   obtain⟨vb,b3⟩:∃ vb,vb=w6.heap.size:=⟨_,rfl⟩
   rw [← b3] at r1
   obtain⟨W7,b2⟩:∃ W,W=(w6.setCell ⟨a.b,17,none⟩ (Z09 w6.heap.size)).alloc (.cells #[.int .i64 u, .int .i64 s.n, .slice none 0 0] 173):=⟨_,rfl⟩
   rw [← b2]
   rw [← b3] at b2
   rw [← b3,← b2] at b5 g3 e5
   rw [← b2] at r1
   replace r1:=hd_ r1;replace b3:=hd_ b3;replace b2:=hd_ b2;clear t7 n6 s6 u1 up un m1 v3 y3 k3;go_upto_region 6 with (fail)
   refine Z05 (fun _=>False) (.q 0 (.q 1 (.q 2 (.q 3 (.q 4 (.q 5 (.q 6 (.q 7 (.q 8 (.q 9 (.q 10 (.q 11 (.q 12 (.q 13 (.q 14 (.q 15 (.q 17 (.q 18 (.q 19 (.q 20 (.l 16 (.l 21 (.cut (.l 22 .fin)))))))))))))))))))))))) (by kernel_rfl) (by kernel_rfl) ?_
   intro w8 t3 s0
   have b0:=r1.out.grow s0
   have u0:=Z01 (F:=fun _=>False) (b:=w8) (fun h=>h) (show w8.cell? ⟨a.b,0,none⟩=some (.int .i64 s.id) from b0.c 0)
   have u9:=Z01 (F:=fun _=>False) (b:=w8) (fun h=>h) (show w8.cell? ⟨a.b,9,none⟩=some (Z09 a.l) from b0.c 9)
   have p6:=Z01 (F:=fun _=>False) (b:=w8) (fun h=>h) (show w8.cell? ⟨a.b,10,none⟩=some (.int .i64 s.com) from b0.c 10)
   have q6:=Z01 (F:=fun _=>False) (b:=w8) (fun h=>h) (show w8.cell? ⟨a.b,11,none⟩=some (.int .i64 s.last) from b0.c 11)
   have z3:=b0.lt
   have x2:=Z02 b5.out s0
   have d4:=Z02 g3.out s0
   have up:=Z01 (F:=fun _=>False) (b:=w8) (fun h=>h) (show w8.cell? ⟨pb,0,none⟩=some (Z09 a.b) from Z00 x2 0)
   have r6:=Z01 (F:=fun _=>False) (b:=w8) (fun h=>h) (show w8.cell? ⟨a.b,17,none⟩=some (Z09 vb) from b0.c 17)
   have m1:=Z04 x2
   have j6:=hd_ (e5.out.trans (Turn.grow (J:=JK K) s0 r1.out.wf))
   replace x2:=hd_ x2;replace d4:=hd_ d4;replace b0:=hd_ b0;clear t3;replace s0:=hd_ s0;iterate 20 (refine Z0n rfl ?_;go_big_quiet_step (fail);refine wpQuiet_nil ?_)
   refine Z0j rfl (by kernel_rfl) ?_;intro K1 hK;go_simp
   have y4:rdLog w8 a.l s.L:=b0.out.r.lg.rd
   refine (Z19 a.l s.L 0 _ y4 (by have:=hok.out.lg;omega)).mono ?_
   rintro r w9 ⟨v9,rfl,h3,s1⟩
   rw [show Z4o s.L 0=s.L by simp [Z4o]] at h3
   obtain⟨sa9,sc9,rfl⟩:=h3.rd.len
   have j4:=hd_ (pubE.new (own:=own7) h3 b0.out.wf)
   have j5:=hd_ (b0.out.grow s1)
   have k6:=hd_ (j6.out.trans (Turn.grow (J:=JK K) s1 b0.out.wf))
   have c5:=hd_ (Z02 x2.out s1)
   have a5:=hd_ (Z02 d4.out s1)
   clear h3 y4
   refine hK _ _ (.of_below s1) ?_
   clear hK K1;refine Z0j rfl (by kernel_rfl) ?_;intro K1 hK;go_simp
   refine hK _ _ (.of_below s1) ?_
   clear hK K1;refine Z0h Z1j ?_;refine Z0j rfl (by kernel_rfl) ?_;intro K1 hK;go_simp
   refine (ndVAdd j5.out (u:=u) (l:=[]) (vb:=vb) rfl rfl ⟨by omega,by omega,Nat.zero_le _,fun x hx=>by cases hx⟩ ⟨s.id,s.last,s.L,s.com⟩ _ j4.out.1).mono ?_
   rintro r w10 ⟨rfl,own10,f1,t10⟩
   refine hK _ _ (Z0l t10) ?_
   clear hK K1;refine Z0c ?_
   have g4:=hd_ (t10.pub c5.out (by rw [z2];exact jk0 o1))
   have b4:=hd_ (t10.pub a5.out (by rw [t2];exact jk0 o1))
   have q1:own10 pb=0:=(t10.old pb (Z04 c5.out)).trans z2
   have p1:own10 nb=0:=(t10.old nb (Z04 a5.out)).trans t2
   have p4:=hd_ (k6.out.trans t10)
   replace f1:=hd_ f1;clear t10 u0 u9 p6 q6 r6 up m1 z3 s1;go_upto_region 7 with (fail)
   refine Z05 (fun k=>k=a.b) (.q 0 (.q 1 (.q 2 (.q 3 (.q 4 (.l 5 (.q 6 (.q 7 (.l 8 (.q 9 (.q 10 (.l 11 .fin)))))))))))) (by kernel_rfl) (by kernel_rfl) ?_
   intro w11 n2 f0
   have a0:=f1.out.grow f0
   have p2:=a0.lt
   have z0:=Z02 g4.out f0
   have x1:=Z02 b4.out f0
   have e6:pb≠a.b:=by have:=h.out.lt;have:=f2.out;omega
   have hna:nb≠a.b:=by have:=h.out.lt;omega
   have up:=Z01 (F:=fun k=>k=a.b) (b:=w11) e6 (show w11.cell? ⟨pb,0,none⟩=some (Z09 a.b) from Z00 z0 0)
   have m1:=Z04 z0
   have q4:w11.cell? ⟨a.b,4,none⟩=some (.int .i64 s.clock):=a0.c 4
   have q5:w11.cell? ⟨a.b,5,none⟩=some (.int .i64 s.heard):=a0.c 5
   have o6:w11.cell? ⟨a.b,19,none⟩=some (.bool s.again):=a0.c 19
   have z5:=a0.free 5
   have t6:=a0.free 19
   obtain⟨h2,t12⟩:=a0.s5 s.clock
   obtain⟨o0,t13⟩:=h2.s19 false
   have a3:=hd_ (p4.out.trans ((Turn.grow (J:=JK K) f0 f1.out.wf).trans ((t12.mono jkK).trans (t13.mono jkK))))
   have m0:=t13.pub (t12.pub z0 (by omega)) (by omega)
   have y0:=t13.pub (t12.pub x1 (by omega)) (by omega)
   replace o0:=hd_ o0;clear h2 t12 t13;replace z0:=hd_ z0;replace x1:=hd_ x1;replace a0:=hd_ a0;clear n2;replace f0:=hd_ f0;iterate 5 (refine Z0n rfl ?_;go_big_quiet_step (fail);refine wpQuiet_nil ?_)
   refine Z0j rfl (by kernel_rfl) ?_;intro K1 hK;go_simp
   refine hK _ _ (Chg.refl _ _) ?_
   clear hK K1;refine Z0n rfl ?_;go_big_quiet_step (fail);refine wpQuiet_nil ?_;refine Z0n rfl ?_;go_big_quiet_step (fail);refine wpQuiet_nil ?_;refine Z0j rfl (by kernel_rfl) ?_;intro K1 hK;go_simp
   refine hK _ _ (Z06 (Chg.refl _ _) rfl) ?_
   clear hK K1;refine Z0n rfl ?_;go_big_quiet_step (fail);refine wpQuiet_nil ?_;refine Z0n rfl ?_;go_big_quiet_step (fail);refine wpQuiet_nil ?_;refine Z0j rfl (by kernel_rfl) ?_;intro K1 hK;go_simp
   refine hK _ _ (Z06 (Z06 (Chg.refl _ _) rfl) rfl) ?_
   clear hK K1;refine Z0c ?_
   obtain⟨W13,j1⟩:∃ W,W=(w11.setCell ⟨a.b,5,none⟩ (.int .i64 s.clock)).setCell ⟨a.b,19,none⟩ (.bool false):=⟨_,rfl⟩
   rw [← j1]
   rw [← j1] at o0 a3 m0 y0
   replace j1:=hd_ j1;clear up m1 q4 q5 o6 z5 t6 p2
   have cp:W13.cell? ⟨pb,0,none⟩=some (Z09 a.b):=Z00 m0 0
   have g5:W13.cell? ⟨a.b,16,none⟩=some (Z09 a.f):=o0.out.c 16
   have lp:=Z04 m0
   have la:=o0.out.lt
   replace m0:=hd_ m0;replace y0:=hd_ y0;go_wp2_with fail
   refine (Zii o0.out).mono ?_
   rintro r w14 ⟨rfl,own14,g1,t14⟩
   have t14:=t14.mono (J':=JK K) fun o e=>by unfold JK;omega
   have h4:=hd_ (t14.pub m0.out (by rw [q1];exact jk0 o1))
   have c4:=hd_ (t14.pub y0.out (by rw [p1];exact jk0 o1))
   have y2:own14 pb=0:=(t14.old pb (Z04 m0.out)).trans q1
   have s2:own14 nb=0:=(t14.old nb (Z04 y0.out)).trans p1
   have r4:=hd_ (a3.out.trans t14)
   replace g1:=hd_ g1;clear t14 cp g5 lp la;go_upto_region 9 with (fail)
   refine Z05 (fun _=>False) (.q 0 (.q 1 (.q 2 (.q 3 (.q 4 (.q 5 (.q 6 (.l 7 (.cut (.l 8 .fin)))))))))) (by kernel_rfl) (by kernel_rfl) ?_
   intro w15 o2 g0
   have i0:=g1.out.grow g0
   have u1:=Z01 (F:=fun _=>False) (b:=w15) (fun h=>h) (show w15.cell? ⟨a.b,1,none⟩=some (.int .i64 s.n) from i0.c 1)
   have z4:=i0.lt
   have b1:=Z02 h4.out g0
   have y1:=Z02 c4.out g0
   have up:=Z01 (F:=fun _=>False) (b:=w15) (fun h=>h) (show w15.cell? ⟨pb,0,none⟩=some (Z09 a.b) from Z00 b1 0)
   have m1:=Z04 b1
   have s4:=hd_ (r4.out.trans (Turn.grow (J:=JK K) g0 g1.out.wf))
   replace b1:=hd_ b1;replace y1:=hd_ y1;replace i0:=hd_ i0;clear o2;replace g0:=hd_ g0;iterate 7 (refine Z0n rfl ?_;go_big_quiet_step (fail);refine wpQuiet_nil ?_)
   refine Z0j rfl (by kernel_rfl) ?_;intro K1 hK;go_simp
   refine hK _ _ (Chg.refl _ _) ?_
   clear hK K1;refine Z0h Z1j ?_;refine Z0j rfl (by kernel_rfl) ?_;intro K1 hK;go_simp
   have hT:=Ziv s.n hok.out.n3 hok.out.n7
   have b6:=hok.out.n7
   have l5:2 ^ s.n.toNat-1<128:=by
    rcases (by omega:s.n=3∨s.n=4∨s.n=5∨s.n=6∨s.n=7) with e | e | e | e | e<;>rw [e]<;>decide
   have k5:s.all.toNat=2 ^ s.n.toNat-1:=by
    unfold Nd.all
    rcases (by omega:s.n=3∨s.n=4∨s.n=5∨s.n=6∨s.n=7) with e | e | e | e | e<;>rw [e]<;>rfl
   rw [hT]
   refine (Z61 i0.out (2 ^ s.n.toNat-1) l5 141 #[] #[.pointer (some ⟨pb,0,none⟩), .pointer (some ⟨nb,0,none⟩)] (Zam Tryz.func141 (by kernel_rfl) (by kernel_rfl)) (fun k=>{ s.ms 1 k with view:=u }) ?_).mono ?_
   ·intro own1 a1 out1 w1 k h1 e1 t1 p5 hk
    exact Z9e h1 k u a.b pb nb e1.b (t1.pub b1.out (by rw [y2];exact jk0 o1)) (t1.pub y1.out (by rw [s2];exact jk0 o1)) (by omega)
   rintro r w16 ⟨rfl,n4⟩
   refine hK _ _ (by obtain⟨_,_,_,_,_,_,t⟩:=n4;exact Z0l t) ?_
   clear hK K1;refine Z0c ?_
   have o4:=hd_ (n4.after (At0.mk rfl rfl rfl rfl rfl:At0 a { a with v:=some vb }) s4.out)
   clear n4 hT;go_wp2
   go_end0
   have hp:s.propose=(s.proposes,(s.others s.all).map fun k=>{ s.ms 1 k with view:=u }):=by
    unfold Nd.propose
    rw [hU.out]
    exact if_neg (by have:=z1.out;omega)
   have f6:s.proposes={ s with dv:=u,v:=some (u,Zbx u s.n [] ⟨s.id,s.last,s.L,s.com⟩),heard:=s.clock,again:=false,pf:=s.pf.drop }:=by
    unfold Nd.proposes
    rw [hU.out]
   rw [hp,f6]
   refine⟨rfl,?_⟩
   have:=o4.out
   unfold Nd.others
   rw [k5]
   exact this
end
end
section
open Go.RowKit
section
variable {own:Nat→Nat} {K:Nat} {w:World} {a:NdAt} {s:Nd} {out:List MsS}
theorem Z9f (l:List Ent):Z4o l 0=l:=by simp [Z4o]
theorem Z8i (h:NdO own K w a s out) (k:Int) (b:Nat) (hb:a.b=b) (h60:s.L.length≤60) (hl:out.length≤1000000000) :
  Calls Tryz.prog 135 #[Z09 b, .int .i64 k] w fun r w'=>r=.returned (.tuple #[])∧∃ own2 a2 o2,NdO own2 K w' a2 s o2∧o2.map MsS.m=out.map MsS.m++[s.whole k]∧At0 a a2∧Turn (JK K) own own2 w w':=by
 subst hb;replace h:=hd_ h
 go_enter Tryz.func135,Tryz.ntmps135
 go_upto_region 0 with (fail)
 refine Z05 (fun _=>False) (.q 0 (.q 1 (.q 2 (.q 3 (.q 4 (.q 5 (.q 6 (.q 7 (.q 8 (.q 9 (.q 10 (.q 11 (.q 12 (.q 13 (.q 15 (.q 16 (.q 17 (.q 18 (.l 14 (.l 19 (.cut (.l 20 .fin)))))))))))))))))))))) (by kernel_rfl) (by kernel_rfl) ?_
 intro w1 f0 b0
 have a0:=h.out.grow b0
 have u9:=Z01 (F:=fun _=>False) (b:=w1) (fun h=>h) (show w1.cell? ⟨a.b,9,none⟩=some (Z09 a.l) from a0.c 9)
 have u10:=Z01 (F:=fun _=>False) (b:=w1) (fun h=>h) (show w1.cell? ⟨a.b,10,none⟩=some (.int .i64 s.com) from a0.c 10)
 have u11:=Z01 (F:=fun _=>False) (b:=w1) (fun h=>h) (show w1.cell? ⟨a.b,11,none⟩=some (.int .i64 s.last) from a0.c 11)
 have u12:=Z01 (F:=fun _=>False) (b:=w1) (fun h=>h) (show w1.cell? ⟨a.b,12,none⟩=some (.int .i64 s.mem) from a0.c 12)
 have i0:=a0.lt
 replace a0:=hd_ a0;clear f0;replace b0:=hd_ b0;iterate 18 (refine Z0n rfl ?_;go_big_quiet_step (fail);refine wpQuiet_nil ?_)
 refine Z0j rfl (by kernel_rfl) ?_;intro K1 hK;go_simp
 refine (Z19 a.l s.L 0 _ a0.out.r.lg.rd (by omega)).mono ?_
 rintro r w2 ⟨v2,rfl,d0,c0⟩
 rw [Z9f] at d0
 obtain⟨sa,sc,rfl⟩:=d0.rd.len
 have g0:=hd_ (pubE.new (own:=own) d0 a0.out.wf)
 have h0:=hd_ (a0.out.grow c0)
 have t2:=hd_ ((Turn.grow (J:=JK K) (own:=own) b0.out h.out.wf).trans (Turn.grow (J:=JK K) c0 a0.out.wf))
 clear d0
 refine hK _ _ (.of_below c0) ?_
 clear hK K1;refine Z0j rfl (by kernel_rfl) ?_;intro K1 hK;go_simp
 refine hK _ _ (.of_below c0) ?_
 clear hK K1;refine Z0h Z1j ?_;refine Z0j rfl (by kernel_rfl) ?_;intro K1 hK;go_simp
 refine (Z6n h0.out ⟨4,0,k,0,s.last,0,s.mem,0,s.L,s.com,0,0,false⟩ sa sc g0.out hl).mono ?_
 rintro r w3 ⟨rfl,own3,a3,o3,e0,e3,f3,t3⟩
 refine hK _ _ (Z0l t3) ?_
 clear hK K1;refine Z0c ?_
 have hT:=hd_ (t2.out.trans t3)
 replace e0:=hd_ e0;replace e3:=hd_ e3;clear t3;go_wp2
 go_end0
 exact⟨rfl,own3,a3,o3,e0.out,e3.out,f3,hT.out⟩
theorem Z6r (h:NdO own K w a s out) (k num:Int) (hl:out.length≤1000000000) :
  Calls Tryz.prog 164 #[Z09 a.b, .int .i64 k, .int .i64 num] w fun r w'=>r=.returned (.tuple #[])∧Stp own K w a w' s (out.map MsS.m++[s.ackM k num]):=by
 replace h:=hd_ h
 go_enter Tryz.func164,Tryz.ntmps164
 go_upto_region 0 with (fail)
 refine Z05 (fun _=>False) (.q 0 (.q 1 (.q 2 (.q 3 (.q 4 (.q 5 (.q 6 (.q 7 (.q 8 (.q 9 (.q 11 (.l 10 (.l 12 (.cut (.l 13 .fin))))))))))))))) (by kernel_rfl) (by kernel_rfl) ?_
 intro w1 d0 b0
 have a0:=h.out.grow b0
 have u9:=Z01 (F:=fun _=>False) (b:=w1) (fun h=>h) (show w1.cell? ⟨a.b,9,none⟩=some (Z09 a.l) from a0.c 9)
 have u11:=Z01 (F:=fun _=>False) (b:=w1) (fun h=>h) (show w1.cell? ⟨a.b,11,none⟩=some (.int .i64 s.last) from a0.c 11)
 have e0:=a0.lt
 replace a0:=hd_ a0;clear d0;replace b0:=hd_ b0;iterate 11 (refine Z0n rfl ?_;go_big_quiet_step (fail);refine wpQuiet_nil ?_)
 refine Z0j rfl (by kernel_rfl) ?_;intro K1 hK;go_simp
 refine (Z0m a.l s.L _ a0.out.r.lg.rd).mono ?_
 rintro r w2 ⟨rfl,rfl⟩
 have t1:=hd_ (Turn.grow (J:=JK K) (own:=own) b0.out h.out.wf)
 refine hK _ _ (Chg.refl _ _) ?_
 clear hK K1;refine Z0j rfl (by kernel_rfl) ?_;intro K1 hK;go_simp
 refine hK _ _ (Chg.refl _ _) ?_
 clear hK K1;refine Z0h Z1j ?_;refine Z0j rfl (by kernel_rfl) ?_;intro K1 hK;go_simp
 refine (Z6n a0.out ⟨6,0,k,0,s.last,0,0,s.L.length,[],0,num,0,false⟩ none 0 (Z4e _ _) hl).mono ?_
 rintro r w3 ⟨rfl,own3,a3,o3,c0,e3,f3,t3⟩
 refine hK _ _ (Z0l t3) ?_
 clear hK K1;refine Z0c ?_
 have hT:=hd_ (t1.out.trans t3)
 replace c0:=hd_ c0;replace e3:=hd_ e3;clear t3;go_wp2
 go_end0
 exact⟨rfl,own3,a3,o3,c0.out,e3.out,f3,hT.out⟩
end
end
end Go.Proofs.YtbonjbokofkafaaGreat
