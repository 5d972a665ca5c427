/- Lemmas of the proof: PkI. -/
import Derived.Test.YtbonjbokofkafaaGreatPkL
import Derived.Test.YtbonjbokofkafaaGreatPkH
import Derived.Test.YtbonjbokofkafaaGreatPkA
import Derived.Test.YtbonjbokofkafaaGreatPkC
import Derived.Deep.DeepCutAuto
namespace Go.Proofs.YtbonjbokofkafaaGreat
set_option linter.unusedVariables false
set_option maxRecDepth 100000
set_option maxHeartbeats 64000000
section
open Go.RowKit
theorem Zir (me:Int) (bs:List Int) (h:bs.length=8) (i:Nat) (hi:i<8):(gC me bs)[1+i]?=some (.int .i64 (bs.getD i 0)):=by
 match bs,h with
 | [a0,a1,a2,a3,a4,a5,a6,a7],_=>
   rcases (by omega:i=0∨i=1∨i=2∨i=3∨i=4∨i=5∨i=6∨i=7) with rfl | rfl | rfl | rfl | rfl | rfl | rfl | rfl<;>rfl
theorem gC_set (me:Int) (bs:List Int) (h:bs.length=8) (i:Nat) (hi:i<8) (x:Int):(gC me bs).setIfInBounds (1+i) (.int .i64 x)=gC me (bs.set i x):=by
 match bs,h with
 | [a0,a1,a2,a3,a4,a5,a6,a7],_=>
   rcases (by omega:i=0∨i=1∨i=2∨i=3∨i=4∨i=5∨i=6∨i=7) with rfl | rfl | rfl | rfl | rfl | rfl | rfl | rfl<;>rfl
abbrev msZ:Ms:=⟨0,0,0,0,0,0,0,0,[],0,0,0,false⟩
def GHeard (gb:Nat) (me:Int) (bs:List Int) (m:Ms) (w:World) (r:Ending) (w':World):Prop:=
 (m.too≠me∧r=.returned (.tuple #[Z0w msZ (.slice none 0 0), .int .i64 1])∧Below w.heap.size w w') ∨
 (m.too=me∧m.boot<bs.getD m.frm.toNat 0∧r=.returned (.tuple #[Z0w msZ (.slice none 0 0), .int .i64 7])∧Below w.heap.size w w') ∨
 (m.too=me∧¬ m.boot<bs.getD m.frm.toNat 0∧∃ sa sc,r=.returned (.tuple #[Z0w m (.slice sa m.ents.length sc), .int .i64 0])∧gmO w' gb me (bs.set m.frm.toNat m.boot)∧ownE w' w.heap.size 134 (.slice sa m.ents.length sc) m.ents∧Chg (fun k=>k=gb) w w')
theorem Zis (gb:Nat) (me:Int) (bs:List Int) (v:Value) (m:Ms) (w:World) (hg:gmO w gb me bs) (h:rdB w v (Z4w m)) (hm:MayM m) :
  Calls Tryz.prog 115 #[.pointer (some ⟨gb,0,none⟩),v] w fun r w'=>GHeard gb me bs m w r w':=by
 obtain⟨hgb,hb8⟩:=hg
 have hgl:=Z04 hgb
 have HB:=hd_ ((Below.refl w.heap.size w).alloc (Nat.le_refl _) Zcl)
 have hrb0:=hd_ (Z0a w Zcl)
 have hf1:=hm.f1
 have hf7:=hm.f2
 have HD:=hd_ (fun w1 (hb:Below w.heap.size w w1)=>Zfv v m w1 (h.below hb) hm)
 clear hm h
 replace hgb:=hd_ hgb
 obtain⟨fn,hfn⟩:=Int.eq_ofNat_of_zero_le (by omega:0≤m.frm)
 obtain⟨k,f,t,b,vi,l,mm,po,es,co,nu,cl,y⟩:=m
 dsimp only at *
 subst hfn
 have hf8:fn<8:=by omega
 obtain⟨ob,hob⟩:∃ ob,bs.getD fn 0=ob:=⟨_,rfl⟩
 replace hob:=hd_ hob
 go_enter Tryz.func115,Tryz.ntmps115
 go_wp2_with fail
 refine (HD.out _ HB.out).mono ?_
 rintro r w1 ⟨sa,sc,rfl,ho1,hb1⟩
 have hrb1:=hd_ (Z02 hrb0.out hb1)
 have hB1:=hd_ (HB.out.trans (hb1.mono HB.out.size))
 have hs1:=hB1.out.size
 have hg1:=hd_ (Z02 hgb.out hB1.out)
 obtain⟨W2,hW2⟩:∃ W2,W2=w1.alloc (.cells #[.int .i64 k, .int .i64 (fn:Int), .int .i64 t, .int .i64 b, .int .i64 vi, .int .i64 l, .int .i64 mm, .int .i64 po, .slice sa es.length sc, .int .i64 co, .int .i64 nu, .int .i64 cl, .bool y] 37):=⟨_,rfl⟩
 have hB2:Below w.heap.size w W2:=hW2 ▸ hB1.out.alloc hs1 _
 have hrb2:W2.heap[w.heap.size]?=some Zcl:=hW2 ▸ Z4l _ hrb1.out
 have hg2:W2.heap[gb]?=some (.cells (gC me bs) 201 (0,0)):=hW2 ▸ Z4l _ hg1.out
 have hx2:W2.heap[w1.heap.size]?=some (.cells #[.int .i64 k, .int .i64 (fn:Int), .int .i64 t, .int .i64 b, .int .i64 vi, .int .i64 l, .int .i64 mm, .int .i64 po, .slice sa es.length sc, .int .i64 co, .int .i64 nu, .int .i64 cl, .bool y] 37 (0,0)):=hW2 ▸ Z0a _ _
 have hsb:Hid (∀ k,(Value.slice sa es.length sc).ownBlock=some k→w.heap.size<k):=hd_ fun k hk=>by
  have:=(ho1.lt k hk).1
  have:(w.alloc Zcl).heap.size=w.heap.size+1:=World.size_alloc ..
  omega
 have ho2:ownE W2 w.heap.size 134 (.slice sa es.length sc) es:=Z71 (hW2 ▸ Z0z ho1 ((Below.refl _ _).alloc (Nat.le_refl _) _)) (by have:=HB.out.size;omega)
 obtain⟨xb,hxb⟩:∃ xb,xb=w1.heap.size:=⟨_,rfl⟩
 rw [← hxb] at hx2
 replace hxb:=hd_ hxb
 go_upto_region 4 with (fail)
 rw [← hW2,← hxb.out]
 clear hW2 ho1 hb1 hrb1 hg1 hB1 HB hrb0 hgb
 have c0:W2.cell? ⟨gb,0,none⟩=some (.int .i64 me):=Z00 hg2 0
 have x2:=Z00 hx2 2
 simp only [List.getElem?_toArray,List.getElem?_cons_zero,List.getElem?_cons_succ] at x2
 have u0:=Z07 c0
 have u2:=Z07 x2
 have hl2:=Z04 hx2
 have hgl2:=Z04 hg2
 replace hB2:=hd_ hB2
 replace hrb2:=hd_ hrb2
 replace hg2:=hd_ hg2
 replace hx2:=hd_ hx2
 replace ho2:=hd_ ho2
 refine Z08 (by kernel_rfl) (by kernel_rfl) ?_
 repeat (go_big_quiet_step (fail))
 refine wpQuiet_nil ?_
 intro w3 hw3
 have hb3:=Z0e hw3
 have hB3:=hd_ (hB2.out.trans (hb3.mono hB2.out.size))
 have hrb3:=hd_ (Z02 hrb2.out hb3)
 have hg3:=hd_ (Z02 hg2.out hb3)
 have hx3:=hd_ (Z02 hx2.out hb3)
 have ho3:=hd_ (Z0z ho2.out hb3)
 clear hw3 hb3 hB2 hrb2 hg2 hx2 ho2 u0 u2 x2 c0 hl2 hgl2
 by_cases hte:t=me
 case neg=>
  have ht1:(t != me)=true:=by simpa using hte
  replace hte:=hd_ hte
  have g0:=Z00 hrb3.out 0
  have g1:=Z00 hrb3.out 1
  have g2:=Z00 hrb3.out 2
  have g3:=Z00 hrb3.out 3
  have g4:=Z00 hrb3.out 4
  have g5:=Z00 hrb3.out 5
  have g6:=Z00 hrb3.out 6
  have g7:=Z00 hrb3.out 7
  have g8:=Z00 hrb3.out 8
  have g9:=Z00 hrb3.out 9
  have g10:=Z00 hrb3.out 10
  have g11:=Z00 hrb3.out 11
  have g12:=Z00 hrb3.out 12
  simp only [List.getElem?_toArray,List.getElem?_cons_zero,List.getElem?_cons_succ] at g0 g1 g2 g3 g4 g5 g6 g7 g8 g9 g10 g11 g12
  have t0:=Z03 hrb3.out 0
  have t1:=Z03 hrb3.out 1
  have t2:=Z03 hrb3.out 2
  have t3:=Z03 hrb3.out 3
  have t4:=Z03 hrb3.out 4
  have t5:=Z03 hrb3.out 5
  have t6:=Z03 hrb3.out 6
  have t7:=Z03 hrb3.out 7
  have t8:=Z03 hrb3.out 8
  have t9:=Z03 hrb3.out 9
  have t10:=Z03 hrb3.out 10
  have t11:=Z03 hrb3.out 11
  have t12:=Z03 hrb3.out 12
  have hl2:=Z04 hrb3.out
  have hge:w.heap.size≤w.heap.size:=Nat.le_refl _
  have hfi:∀ a0 a1 a2 a3 a4 a5 a6 a7 a8 a9 a10 a11 a12,Below w.heap.size w (((((((((((((w3.setCell ⟨w.heap.size,0,none⟩ a0).setCell ⟨w.heap.size,1,none⟩ a1).setCell ⟨w.heap.size,2,none⟩ a2).setCell ⟨w.heap.size,3,none⟩ a3).setCell ⟨w.heap.size,4,none⟩ a4).setCell ⟨w.heap.size,5,none⟩ a5).setCell ⟨w.heap.size,6,none⟩ a6).setCell ⟨w.heap.size,7,none⟩ a7).setCell ⟨w.heap.size,8,none⟩ a8).setCell ⟨w.heap.size,9,none⟩ a9).setCell ⟨w.heap.size,10,none⟩ a10).setCell ⟨w.heap.size,11,none⟩ a11).setCell ⟨w.heap.size,12,none⟩ a12):=by
   intro a0 a1 a2 a3 a4 a5 a6 a7 a8 a9 a10 a11 a12
   exact (((((((((((((hB3.out.setCell hge a0).setCell hge a1).setCell hge a2).setCell hge a3).setCell hge a4).setCell hge a5).setCell hge a6).setCell hge a7).setCell hge a8).setCell hge a9).setCell hge a10).setCell hge a11).setCell hge a12)
  replace hfi:=hd_ hfi
  clear hge
  go_wp2
  exact bodyPost_ret (v:=.tuple #[Z0w msZ (.slice none 0 0), .int .i64 1]) (by simp [results,Tryz.results115,go_sem,g0,g1,g2,g3,g4,g5,g6,g7,g8,g9,g10,g11,g12]) rfl (.inl ⟨hte.out,rfl,hfi.out _ _ _ _ _ _ _ _ _ _ _ _ _ ⟩)
 subst hte
 have ht1:(t != t)=false:=by simp
 have x3:=Z00 hx3.out 3
 have x1:=Z00 hx3.out 1
 simp only [List.getElem?_toArray,List.getElem?_cons_zero,List.getElem?_cons_succ] at x1 x3
 have cb:w3.cell? ⟨gb,1+fn,none⟩=some (.int .i64 (bs.getD fn 0)):=(Z00 hg3.out (1+fn)).trans (Zir t bs hb8 fn hf8)
 have hl3:=Z04 hx3.out
 have hgl3:=Z04 hg3.out
 rw [hob.out] at cb
 go_upto_region 6 with (fail)
 have u1:=Z07 x1
 have u3:=Z07 x3
 have ub:=Z07 cb
 refine Z08 (by kernel_rfl) (by kernel_rfl) ?_
 repeat (go_big_quiet_step (fail))
 refine wpQuiet_nil ?_
 intro w4 hw4
 have hb4:=Z0e hw4
 have hB4:=hd_ (hB3.out.trans (hb4.mono hB3.out.size))
 have hrb4:=hd_ (Z02 hrb3.out hb4)
 have hg4:=hd_ (Z02 hg3.out hb4)
 have hx4:=hd_ (Z02 hx3.out hb4)
 have ho4:=hd_ (Z0z ho3.out hb4)
 clear hw4 hb4 hB3 hrb3 hg3 hx3 ho3 u1 u3 ub x1 x3 cb hl3 hgl3
 by_cases hbo:b<ob
 case pos=>
  have g0:=Z00 hrb4.out 0
  have g1:=Z00 hrb4.out 1
  have g2:=Z00 hrb4.out 2
  have g3:=Z00 hrb4.out 3
  have g4:=Z00 hrb4.out 4
  have g5:=Z00 hrb4.out 5
  have g6:=Z00 hrb4.out 6
  have g7:=Z00 hrb4.out 7
  have g8:=Z00 hrb4.out 8
  have g9:=Z00 hrb4.out 9
  have g10:=Z00 hrb4.out 10
  have g11:=Z00 hrb4.out 11
  have g12:=Z00 hrb4.out 12
  simp only [List.getElem?_toArray,List.getElem?_cons_zero,List.getElem?_cons_succ] at g0 g1 g2 g3 g4 g5 g6 g7 g8 g9 g10 g11 g12
  have t0:=Z03 hrb4.out 0
  have t1:=Z03 hrb4.out 1
  have t2:=Z03 hrb4.out 2
  have t3:=Z03 hrb4.out 3
  have t4:=Z03 hrb4.out 4
  have t5:=Z03 hrb4.out 5
  have t6:=Z03 hrb4.out 6
  have t7:=Z03 hrb4.out 7
  have t8:=Z03 hrb4.out 8
  have t9:=Z03 hrb4.out 9
  have t10:=Z03 hrb4.out 10
  have t11:=Z03 hrb4.out 11
  have t12:=Z03 hrb4.out 12
  have hl2:=Z04 hrb4.out
  have hge:w.heap.size≤w.heap.size:=Nat.le_refl _
  have hfi:∀ a0 a1 a2 a3 a4 a5 a6 a7 a8 a9 a10 a11 a12,Below w.heap.size w (((((((((((((w4.setCell ⟨w.heap.size,0,none⟩ a0).setCell ⟨w.heap.size,1,none⟩ a1).setCell ⟨w.heap.size,2,none⟩ a2).setCell ⟨w.heap.size,3,none⟩ a3).setCell ⟨w.heap.size,4,none⟩ a4).setCell ⟨w.heap.size,5,none⟩ a5).setCell ⟨w.heap.size,6,none⟩ a6).setCell ⟨w.heap.size,7,none⟩ a7).setCell ⟨w.heap.size,8,none⟩ a8).setCell ⟨w.heap.size,9,none⟩ a9).setCell ⟨w.heap.size,10,none⟩ a10).setCell ⟨w.heap.size,11,none⟩ a11).setCell ⟨w.heap.size,12,none⟩ a12):=by
   intro a0 a1 a2 a3 a4 a5 a6 a7 a8 a9 a10 a11 a12
   exact (((((((((((((hB4.out.setCell hge a0).setCell hge a1).setCell hge a2).setCell hge a3).setCell hge a4).setCell hge a5).setCell hge a6).setCell hge a7).setCell hge a8).setCell hge a9).setCell hge a10).setCell hge a11).setCell hge a12)
  replace hfi:=hd_ hfi
  clear hge
  go_wp2
  exact bodyPost_ret (v:=.tuple #[Z0w msZ (.slice none 0 0), .int .i64 7]) (by simp [results,Tryz.results115,go_sem,g0,g1,g2,g3,g4,g5,g6,g7,g8,g9,g10,g11,g12]) rfl (.inr (.inl ⟨rfl,(by show b<bs.getD fn 0;rw [hob.out];exact hbo),rfl,hfi.out _ _ _ _ _ _ _ _ _ _ _ _ _ ⟩))
 go_upto_region 8 with (fail)
 refine Z05 (fun _=>False) (.q 0 (.q 1 (.q 2 (.q 3 (.q 4 (.q 5 (.q 6 (.q 7 (.cut (.l 8 .fin)))))))))) (by kernel_rfl) (by kernel_rfl) ?_
 intro w5 hh5 hb5
 have hB5:=hd_ (hB4.out.trans (hb5.mono hB4.out.size))
 have hrb5:w5.heap[w.heap.size]?=_:=Z02 hrb4.out hb5
 have hg5:=Z02 hg4.out hb5
 have hx5:=Z02 hx4.out hb5
 have ho5:=hd_ (Z0z ho4.out hb5)
 have u1:=Z01 (F:=fun _=>False) (b:=w5) (fun h=>h) (show w5.cell? ⟨xb,1,none⟩=some (.int .i64 (fn:Int)) from Z00 hx5 1)
 have u3:=Z01 (F:=fun _=>False) (b:=w5) (fun h=>h) (show w5.cell? ⟨xb,3,none⟩=some (.int .i64 b) from Z00 hx5 3)
 have cb:w5.cell? ⟨gb,1+fn,none⟩=some (.int .i64 ob):=(Z00 hg5 (1+fn)).trans (by rw [Zir t bs hb8 fn hf8,hob.out])
 have zb:=Z03 hg5 (1+fn)
 have hgl5:=Z04 hg5
 clear hh5 hb5 hB4 hrb4 hg4 hx4 ho4
 replace hg5:=hd_ hg5
 replace hx5:=hd_ hx5
 replace hrb5:=hd_ hrb5
 iterate 8 (refine Z0n rfl ?_;go_big_quiet_step (fail);refine wpQuiet_nil ?_)
 refine Z0h Z1j ?_
 refine Z0j rfl (by kernel_rfl) ?_
 intro K1 hK
 go_simp
 refine hK _ _ (Z06 (Chg.refl _ _) trivial) ?_
 clear hK K1
 refine Z0c ?_
 obtain⟨w6,hw6⟩:∃ w6,w6=w5.setCell ⟨gb,1+fn,none⟩ (.int .i64 b):=⟨_,rfl⟩
 rw [← hw6]
 have hxw:=hxb.out
 have hg6:w6.heap[gb]?=some (.cells (gC t (bs.set fn b)) 201 (0,0)):=by rw [hw6,Z0d hg5.out,gC_set t bs hb8 fn hf8]
 have hx6:=hd_ (show w6.heap[xb]?=_ from hw6 ▸ Z0u hx5.out (by omega))
 have hrb6:=hd_ (show w6.heap[w.heap.size]?=_ from hw6 ▸ Z0u hrb5.out (by omega))
 have hC6:Chg (fun k=>k=gb) w w6:=hw6 ▸ Z06 (.of_below hB5.out) rfl
 have ho6:ownE w6 w.heap.size 134 (.slice sa es.length sc) es:=by
  rw [hw6]
  exact ho5.out.chg (Z06 (F:=fun k=>k=gb) (Chg.refl _ _) rfl) fun k hk e=>by have:=(ho5.out.lt k hk).1;omega
 have hsbk:Hid (∀ k,(Value.slice sa es.length sc).ownBlock=some k→w.heap.size<k):=hsb
 have hbo2:=hd_ hbo
 clear hw6 hg5 hx5 hrb5 hB5 ho5 u1 u3 cb zb hgl5 hxw
 have x0:=Z00 hx6.out 0
 have x1:=Z00 hx6.out 1
 have x2:=Z00 hx6.out 2
 have x3:=Z00 hx6.out 3
 have x4:=Z00 hx6.out 4
 have x5:=Z00 hx6.out 5
 have x6:=Z00 hx6.out 6
 have x7:=Z00 hx6.out 7
 have x8:=Z00 hx6.out 8
 have x9:=Z00 hx6.out 9
 have x10:=Z00 hx6.out 10
 have x11:=Z00 hx6.out 11
 have x12:=Z00 hx6.out 12
 simp only [List.getElem?_toArray,List.getElem?_cons_zero,List.getElem?_cons_succ] at x0 x1 x2 x3 x4 x5 x6 x7 x8 x9 x10 x11 x12
 have g0:=Z00 hrb6.out 0
 have g1:=Z00 hrb6.out 1
 have g2:=Z00 hrb6.out 2
 have g3:=Z00 hrb6.out 3
 have g4:=Z00 hrb6.out 4
 have g5:=Z00 hrb6.out 5
 have g6:=Z00 hrb6.out 6
 have g7:=Z00 hrb6.out 7
 have g8:=Z00 hrb6.out 8
 have g9:=Z00 hrb6.out 9
 have g10:=Z00 hrb6.out 10
 have g11:=Z00 hrb6.out 11
 have g12:=Z00 hrb6.out 12
 simp only [List.getElem?_toArray,List.getElem?_cons_zero,List.getElem?_cons_succ] at g0 g1 g2 g3 g4 g5 g6 g7 g8 g9 g10 g11 g12
 have t0:=Z03 hrb6.out 0
 have t1:=Z03 hrb6.out 1
 have t2:=Z03 hrb6.out 2
 have t3:=Z03 hrb6.out 3
 have t4:=Z03 hrb6.out 4
 have t5:=Z03 hrb6.out 5
 have t6:=Z03 hrb6.out 6
 have t7:=Z03 hrb6.out 7
 have t8:=Z03 hrb6.out 8
 have t9:=Z03 hrb6.out 9
 have t10:=Z03 hrb6.out 10
 have t11:=Z03 hrb6.out 11
 have t12:=Z03 hrb6.out 12
 have hl2:=Z04 hrb6.out
 have hl6:=Z04 hx6.out
 have hge:w.heap.size≤w.heap.size:=Nat.le_refl _
 have hfi:∀ a0 a1 a2 a3 a4 a5 a6 a7 a8 a9 a10 a11 a12,gmO (((((((((((((w6.setCell ⟨w.heap.size,0,none⟩ a0).setCell ⟨w.heap.size,1,none⟩ a1).setCell ⟨w.heap.size,2,none⟩ a2).setCell ⟨w.heap.size,3,none⟩ a3).setCell ⟨w.heap.size,4,none⟩ a4).setCell ⟨w.heap.size,5,none⟩ a5).setCell ⟨w.heap.size,6,none⟩ a6).setCell ⟨w.heap.size,7,none⟩ a7).setCell ⟨w.heap.size,8,none⟩ a8).setCell ⟨w.heap.size,9,none⟩ a9).setCell ⟨w.heap.size,10,none⟩ a10).setCell ⟨w.heap.size,11,none⟩ a11).setCell ⟨w.heap.size,12,none⟩ a12) gb t (bs.set fn b)∧ownE (((((((((((((w6.setCell ⟨w.heap.size,0,none⟩ a0).setCell ⟨w.heap.size,1,none⟩ a1).setCell ⟨w.heap.size,2,none⟩ a2).setCell ⟨w.heap.size,3,none⟩ a3).setCell ⟨w.heap.size,4,none⟩ a4).setCell ⟨w.heap.size,5,none⟩ a5).setCell ⟨w.heap.size,6,none⟩ a6).setCell ⟨w.heap.size,7,none⟩ a7).setCell ⟨w.heap.size,8,none⟩ a8).setCell ⟨w.heap.size,9,none⟩ a9).setCell ⟨w.heap.size,10,none⟩ a10).setCell ⟨w.heap.size,11,none⟩ a11).setCell ⟨w.heap.size,12,none⟩ a12) w.heap.size 134 (.slice sa es.length sc) es∧Chg (fun k=>k=gb) w (((((((((((((w6.setCell ⟨w.heap.size,0,none⟩ a0).setCell ⟨w.heap.size,1,none⟩ a1).setCell ⟨w.heap.size,2,none⟩ a2).setCell ⟨w.heap.size,3,none⟩ a3).setCell ⟨w.heap.size,4,none⟩ a4).setCell ⟨w.heap.size,5,none⟩ a5).setCell ⟨w.heap.size,6,none⟩ a6).setCell ⟨w.heap.size,7,none⟩ a7).setCell ⟨w.heap.size,8,none⟩ a8).setCell ⟨w.heap.size,9,none⟩ a9).setCell ⟨w.heap.size,10,none⟩ a10).setCell ⟨w.heap.size,11,none⟩ a11).setCell ⟨w.heap.size,12,none⟩ a12):=by
  intro a0 a1 a2 a3 a4 a5 a6 a7 a8 a9 a10 a11 a12
  have hc:Chg (fun k=>k=w.heap.size) w6 (((((((((((((w6.setCell ⟨w.heap.size,0,none⟩ a0).setCell ⟨w.heap.size,1,none⟩ a1).setCell ⟨w.heap.size,2,none⟩ a2).setCell ⟨w.heap.size,3,none⟩ a3).setCell ⟨w.heap.size,4,none⟩ a4).setCell ⟨w.heap.size,5,none⟩ a5).setCell ⟨w.heap.size,6,none⟩ a6).setCell ⟨w.heap.size,7,none⟩ a7).setCell ⟨w.heap.size,8,none⟩ a8).setCell ⟨w.heap.size,9,none⟩ a9).setCell ⟨w.heap.size,10,none⟩ a10).setCell ⟨w.heap.size,11,none⟩ a11).setCell ⟨w.heap.size,12,none⟩ a12):=(Z06 (Z06 (Z06 (Z06 (Z06 (Z06 (Z06 (Z06 (Z06 (Z06 (Z06 (Z06 (Z06 (Chg.refl _ _) rfl) rfl) rfl) rfl) rfl) rfl) rfl) rfl) rfl) rfl) rfl) rfl) rfl)
  exact⟨⟨Z0g hg6 hc (by omega),by rw [List.length_set];exact hb8⟩,ho6.chg hc (fun k hk e=>by have:=hsbk.out k hk;omega),hC6.more hc (fun i hi=>.inr (by omega))⟩
 replace hfi:=hd_ hfi
 clear hge hg6 hC6 ho6
 go_wp2
 exact bodyPost_ret (v:=.tuple #[Z0w ⟨k,fn,t,b,vi,l,mm,po,es,co,nu,cl,y⟩ (.slice sa es.length sc), .int .i64 0]) (by simp [results,Tryz.results115,go_sem,g0,g1,g2,g3,g4,g5,g6,g7,g8,g9,g10,g11,g12]) rfl (Or.inr (Or.inr ⟨rfl,(by show ¬ b<bs.getD fn 0;rw [hob.out];exact Int.not_lt.2 hbo2.out),sa,sc,rfl,hfi.out _ _ _ _ _ _ _ _ _ _ _ _ _ ⟩))
end
section
open Go.RowKit
def Stp (own:Nat→Nat) (K:Nat) (w:World) (a:NdAt) (w':World) (s':Nd) (out':List Ms):Prop:=
 ∃ own' a' o',NdO own' K w' a' s' o'∧o'.map MsS.m=out'∧At0 a a'∧Turn (JK K) own own' w w'
theorem jk0 {K:Nat} (h:16≤K):¬ JK K 0:=fun e=>by unfold JK at e;omega
section
variable {own own':Nat→Nat} {K:Nat} {w w':World} {a a':NdAt} {s:Nd} {out:List MsS}
theorem NdO.cb (h:NdO own K w a s out) {b:Nat} (e:a.b=b) (o:Nat):w.cell? ⟨b,o,none⟩=(ndC a s)[o]?:=by rw [← e];exact h.c o
theorem NdO.same (h:NdO own K w a s out):Stp own K w a w s (out.map MsS.m):=⟨own,a,out,h,rfl, .refl a, .grow (Below.refl _ _) h.wf⟩
theorem NdO.stp (h:NdO own' K w' a' s out) (e:At0 a a') (t:Turn (JK K) own own' w w'):Stp own K w a w' s (out.map MsS.m):=⟨own',a',out,h,rfl,e,t⟩
theorem Stp.after {w1:World} {s':Nd} {l:List Ms} (h:Stp own' K w1 a' w' s' l) (e:At0 a a') (t:Turn (JK K) own own' w w1):Stp own K w a w' s' l:=by
 obtain⟨own2,a2,o2,h1,h2,h3,h4⟩:=h
 exact⟨own2,a2,o2,h1,h2,e.trans h3,t.trans h4⟩
theorem NdO.free (h:NdO own K w a s out) (o:Nat):w.frozen? ⟨a.b,o,none⟩=false:=Z03 h.blk o
theorem NdO.set (h:NdO own K w a s out) (o:Nat) (u:Value) {a':NdAt} {s':Nd} (e:(ndC a s).setIfInBounds o u=ndC a' s') (eb:a'.b=a.b) (he:s'.ears.length=8) (hr:NdR own K w a s out→NdR own K w a' s' out) :
  NdO own K (w.setCell ⟨a.b,o,none⟩ u) a' s' out∧Turn (fun i=>i=K) own own w (w.setCell ⟨a.b,o,none⟩ u):=by
 have t:Turn (fun i=>i=K) own own w (w.setCell ⟨a.b,o,none⟩ u):=.same (Z06 (Chg.refl _ _) h.r.ob) h.wf
 have hk:=h.r.k16
 refine⟨⟨?_,he,(hr h.r).turn t (by omega) (by omega) (fun i e=>by omega)⟩,t⟩
 rw [eb,← e];exact Z0d h.blk
end
end
section
open Go.RowKit
theorem Zit {F:Nat→Prop} {w w':World} (h:Chg F w w'):Chg Z1j w w':=h.mono fun _ _ _=>trivial
theorem Z0l {J:Nat→Prop} {own own':Nat→Nat} {w w':World} (t:Turn J own own' w w'):Chg Z1j w w':=Zit t.chg
theorem Ziu (a:Option Addr) (c:Nat) (f:Value) (w:World) :
  Calls Tryz.prog 228 #[.slice a 0 c,f] w fun r w'=>r=.returned (.int .i64 (-1))∧w=w':=by
 go_enter Tryz.func228,Tryz.ntmps228
 go_wp2
 go_loopw [8] (fun i wr=>i=.int .i64 0∧wr=w) (fun _ _=>0)
 case atStart=>exact⟨rfl,rfl⟩
 case round=>
  obtain⟨rfl,rfl⟩:=hrel
  go_wp2
  go_ret
  exact⟨rfl,rfl⟩
theorem Zfw (a:Option Addr) (c:Nat) (f:Value) (w:World) :
  Calls Tryz.prog 209 #[.slice a 0 c,f] w fun r w'=>r=.returned (.slice a 0 c)∧w=w':=by
 go_enter Tryz.func209,Tryz.ntmps209
 go_wp2_with fail
 refine (Ziu a c f _).mono ?_
 rintro r w1 ⟨rfl,rfl⟩
 go_wp2
 go_ret
 exact⟨rfl,rfl⟩
theorem Z7f (b:Nat) (frm boot seq:Int) (l:List Ent) (F:Nat→Prop) (w:World) (h:pnO w F b frm boot seq l) :
  Calls Tryz.prog 86 #[.pointer (some ⟨b,0,none⟩)] w fun r w'=>r=.returned (.int .i64 l.length)∧w=w':=by
 obtain⟨hF,v,hb,ho,hv⟩:=h
 have c3:w.cell? ⟨b,3,none⟩=some v:=Z00 hb 3
 obtain⟨a,c,rfl⟩:=ho.rd.len
 have hl:=Z04 hb
 replace hb:=hd_ hb
 clear ho hv
 go_enter Tryz.func86,Tryz.ntmps86
 go_wp2
 go_ret
 exact⟨rfl,rfl⟩
end
section
open Go.RowKit
theorem NdO.setOv {own:Nat→Nat} {K:Nat} {w:World} {a:NdAt} {s:Nd} {out:List MsS} (h:NdO own K w a s out) :
  NdO own K (w.setCell ⟨a.b,33,none⟩ (.slice none 0 0)) { a with ov:=.slice none 0 0 } s []∧Turn (fun o=>o=K) own own w (w.setCell ⟨a.b,33,none⟩ (.slice none 0 0)):=by
 have t:Turn (fun i=>i=K) own own w (w.setCell ⟨a.b,33,none⟩ (.slice none 0 0)):=.same (Z06 (Chg.refl _ _) h.r.ob) h.wf
 have hk:=h.r.k16
 exact⟨⟨by rw [← Z79 a s h.ears];exact Z0d h.blk,h.ears,h.r.noO.turn t (by omega) (by omega) (fun i e=>by omega)⟩,t⟩
structure Given (own:Nat→Nat) (K:Nat) (w:World) (v:Value) (out:List MsS):Prop where
 row:ownG Z23 w 0 37 v out
 blk:∀ k,v.ownBlock=some k→own k=K+12
 ents:∀ x ∈ out,rdE w x.s x.m.ents∧(0<x.m.ents.length→∀ k,x.s.ownBlock=some k→own k=0)
def SetOk (P:(Nat→Nat)→World→Nd→Prop):Prop:=∀ (own:Nat→Nat) (K:Nat) (w:World) (a:NdAt) (s:Nd) (out:List MsS),NdO own K w a s out→P own w s →
 Calls Tryz.prog 142 #[Z09 a.b] w fun r w'=>r=.returned (.tuple #[])∧∃ own',NdO own' K w' a s.settle out∧Turn (JK K) own own' w w'
section
variable {own:Nat→Nat} {K:Nat} {w:World} {a:NdAt} {s:Nd} {out:List MsS}
theorem Z3m {P:(Nat→Nat)→World→Nd→Prop} (hS:SetOk P) (h:NdO own K w a s out) (hP:P own w s) :
  Calls Tryz.prog 79 #[Z09 a.b] w fun r w'=>r=.returned a.ov∧∃ own',NdO own' K w' { a with ov:=.slice none 0 0 } s.settle []∧Turn (JK K) own own' w w'∧Given own' K w' a.ov out:=by
 have hc:=hd_ (hS own K w a s out h hP)
 clear h
 obtain⟨s',hs'⟩:∃ s',s.settle=s':=⟨_,rfl⟩
 rw [hs'] at hc ⊢
 clear hs' hP
 go_enter Tryz.func79,Tryz.ntmps79
 go_wp2_with fail
 refine hc.out.mono ?_
 rintro r w1 ⟨rfl,own1,h1,t1⟩
 have c33:w1.cell? ⟨a.b,33,none⟩=some a.ov:=(Z00 h1.blk 33).trans (Zai a s' h1.ears)
 have z33:=h1.free 33
 have hl:=h1.lt
 obtain⟨h2,t2⟩:=h1.setOv
 have t3:Turn (JK K) own1 own1 w1 (w1.setCell ⟨a.b,33,none⟩ (.slice none 0 0)):=t2.mono fun o e=>by have:=h1.r.k16;unfold JK;omega
 have hg:Given own1 K (w1.setCell ⟨a.b,33,none⟩ (.slice none 0 0)) a.ov out:=by
  obtain⟨g1,g2,g3⟩:=h1.r.out
  refine⟨g1.chg Z23 t2.chg fun k hk e=>?_,g2,fun x hx=>⟨?_,(g3 x hx).2⟩⟩
  ·have:=g2 k hk;omega
  ·refine (g3 x hx).1.kept fun h0 k hk hlt=>t2.chg.block k hlt fun e=>?_
   have e1:=(g3 x hx).2 h0 k hk
   have:=h1.r.k16
   omega
 replace h1:=hd_ h1
 replace h2:=hd_ h2
 replace hg:=hd_ hg
 have t4:=hd_ (t1.trans t3)
 clear t1 t2 t3 hc
 go_wp2
 go_ret
 exact⟨rfl,own1,h2.out,t4.out,hg.out⟩
end
end
section
open Go.RowKit
def okVs (u n:Int) (l:List Vt):Prop:=0≤u∧u≤1099511627776∧l.length≤Z0v (mkV l)∧∀ x ∈ l,1≤x.frm∧x.frm≤n∧0≤x.last∧x.last<u∧(Z2y x.lg).length=x.lg.length∧0≤x.com∧x.com≤(x.lg.length:Int)
structure Ok (c:Nat) (s:Nd):Prop where
 n3:3≤s.n
 n7:s.n≤7
 i1:1≤s.id
 in_:s.id≤s.n
 b1:1≤s.boot
 b2:s.boot≤1099511627776
 c0:0≤s.clock
 c1:s.clock≤c
 h0:0≤s.heard
 h1:s.heard≤s.clock
 d0:0≤s.dv
 d1:s.dv≤1099511627776
 l0:0≤s.last
 l1:s.last≤s.dv
 m0:0≤s.mem
 m1:s.mem<128
 lg:s.L.length≤60
 o0:0≤s.com
 o1:s.com≤s.L.length
 e0:0≤s.denied
 e1:s.denied≤1099511627776
 a0:0≤s.acked
 a1:s.acked<128
 j0:0≤s.jp
 j1:s.jp≤1099511627776
 vt:∀ u l,s.v=some (u,l)→okVs u s.n l
 q0:0≤s.pf.num
 q1:s.pf.num≤s.boot*1048576+c
 qa:s.pf.asked.length≤64
theorem Z8g (l:List VtS):Z0v (mkV (l.map VtS.v))=Z0v l:=by
 unfold Z0v mkV
 rw [List.map_map,List.map_map];rfl
theorem okV_mk (u n:Int) (l:List VtS) (x:Vt):okV u n (mkV (l.map VtS.v)) x=okV u n l x:=by
 unfold okV;rw [Z8g]
theorem mkV_snoc (l:List Vt) (x:Vt):mkV (l++[x])=mkV l++mkV [x]:=by unfold mkV;rw [List.map_append]
theorem Z9d {u n:Int} {l:List Vt} (h:okVs u n l) (hn:n≤7) (x:Vt):okVs u n (Zbx u n l x):=by
 unfold Zbx
 cases hok:okV u n (mkV l) x
 ·exact h
 ·obtain⟨h1,h2,h3,h4⟩:=h
  have hx:=hok
  unfold okV at hx
  simp only [Bool.and_eq_true,decide_eq_true_eq,Bool.not_eq_true'] at hx
  obtain⟨⟨⟨⟨⟨⟨⟨x1,x2⟩,x3⟩,x4⟩,x5⟩,x6⟩,x7⟩,x8⟩:=hx
  refine⟨h1,h2,?_,fun y hy=>?_⟩
  ·show (l++[x]).length≤Z0v (mkV (l++[x]))
   rw [mkV_snoc,show mkV [x]=[⟨x, .slice none 0 0⟩] from rfl,Z8b,Zhq (Z31 _) x1 (by show x.frm≤7;omega) x3]
   have:=Nat.two_pow_pos (x.frm.toNat-1)
   simp only [List.length_append,List.length_singleton]
   show l.length+1≤Z0v (mkV l)+2 ^ (x.frm.toNat-1)
   omega
  ·rcases List.mem_append.1 hy with h | h
   ·exact h4 y h
   ·obtain rfl:=List.mem_singleton.1 h
    exact⟨x1,x2,x4,x5,x6,x7,x8⟩
theorem okVs_len {u n:Int} {l:List Vt} (h:okVs u n l):l.length≤127:=by
 have:=Z31 (mkV l)
 have:=h.2.2.1
 omega
noncomputable def clsO (own:Nat→Nat) (n n':Nat) (f:Nat→Nat):Nat→Nat:=fun c=>if c<n then own c else if c<n' then f c else 0
theorem Turn.cls {J:Nat→Prop} {own:Nat→Nat} {w w':World} (f:Nat→Nat) (h:Chg (fun c=>J (own c)) w w'):Turn J own (clsO own w.heap.size w'.heap.size f) w w':=
 ⟨h,fun c hc=>by unfold clsO;rw [if_pos hc],fun c hc=>by have:=h.size;unfold clsO;rw [if_neg (by omega),if_neg (by omega)]⟩
section
variable {own:Nat→Nat} {K:Nat} {w:World} {a:NdAt} {s:Nd} {out:List MsS}
theorem NdO.votes (h:NdO own K w a s out) {u:Int} {l:List Vt} {vb:Nat} (hv:s.v=some (u,l)) (ha:a.v=some vb) :
  ∃ ls:List VtS,l=ls.map VtS.v∧vtO 173 184 w (Is own (K+8)) (Is own (K+9)) vb u s.n ls:=by
 have:=h.r.vt
 rw [hv,ha] at this
 exact this
theorem NdO.vsome (h:NdO own K w a s out) {u:Int} {l:List Vt} (hv:s.v=some (u,l)):∃ vb,a.v=some vb:=by
 have:=h.r.vt
 rw [hv] at this
 cases hav:a.v with
 | none=>rw [hav] at this;exact this.elim
 | some vb=>exact⟨vb,rfl⟩
theorem NdO.vnone (h:NdO own K w a s out) (hv:s.v=none):a.v=none:=by
 have:=h.r.vt
 rw [hv] at this
 cases hav:a.v with
 | none=>rfl
 | some vb=>rw [hav] at this;exact this.elim
open Classical in
theorem ndVAdd (h:NdO own K w a s out) {u:Int} {l:List Vt} {vb:Nat} (hv:s.v=some (u,l)) (ha:a.v=some vb) (hok:okVs u s.n l) (x:Vt) (v:Value) (hs:rdE w v x.lg) :
  Calls Tryz.prog 139 #[Z09 vb,x.val v] w fun r w'=>r=.returned (.bool (okV u s.n (mkV l) x))∧∃ own',NdO own' K w' a { s with v:=some (u,Zbx u s.n l x) } out∧Turn (JK K) own own' w w':=by
 obtain⟨ls,rfl,hvt⟩:=h.votes hv ha
 have hk:=h.r.k16
 have hlen:=okVs_len hok
 rw [List.length_map] at hlen
 have hin:∀ k j,j≠0→own k=j→k<w.heap.size:=fun k j hj e=>Nat.lt_of_not_le fun hge=>by rw [h.wf k hge] at e;exact hj e.symm
 refine (vAdd_any vb u s.n ls x v _ _ w hvt (fun k hk2=>by rcases hk2 with e | e;exact hin k _ (by omega) e;exact hin k _ (by omega) e) hs (by omega)).mono ?_
 rintro r w' ⟨rfl,hva⟩
 rw [okV_mk]
 refine⟨rfl,?_⟩
 unfold Zbx Za5 at *
 rw [okV_mk]
 cases hb:okV u s.n ls x
 ·rw [hb] at hva
  simp only [Bool.false_eq_true,if_false] at hva ⊢
  have e:({ s with v:=some (u,ls.map VtS.v) }:Nd)=s:=by rw [← hv]
  rw [e]
  exact⟨own,h.grow hva, .grow hva h.wf⟩
 ·rw [hb] at hva
  simp only [if_true] at hva ⊢
  obtain⟨s',F',D',hvt',hF',hD',hc⟩:=hva
  have t:=Turn.cls (J:=fun o=>o=K+8) (own:=own) (fun c=>if F' c then K+8 else if D' c then K+9 else 0) hc
  have hmono:vtO 173 184 w' (Is (clsO own w.heap.size w'.heap.size fun c=>if F' c then K+8 else if D' c then K+9 else 0) (K+8)) (Is (clsO own w.heap.size w'.heap.size fun c=>if F' c then K+8 else if D' c then K+9 else 0) (K+9)) vb u s.n (ls++[⟨x,s'⟩]):=by
   refine hvt'.monoF (fun k hk'=>?_) (fun k hk'=>?_) (fun k h1 h2=>?_)
   ·show clsO _ _ _ _ k=K+8
    rcases hF' k hk' with e | ⟨e1,e2⟩
    ·unfold clsO;rw [if_pos (hin k _ (by omega) e)];exact e
    ·unfold clsO;rw [if_neg (by omega),if_pos e2];exact if_pos hk'
   ·show clsO _ _ _ _ k=K+9
    rcases hD' k hk' with e | ⟨e1,e2⟩ | e
    ·unfold clsO;rw [if_pos (hin k _ (by omega) e)];exact e
    ·unfold clsO;rw [if_neg (by omega),if_pos e2];exact (if_neg (fun hf=>hvt'.2.1 k hf hk')).trans (if_pos hk')
    ·exact e.elim
   ·have e1:clsO own w.heap.size w'.heap.size (fun c=>if F' c then K+8 else if D' c then K+9 else 0) k=K+8:=h1
    have e2:clsO own w.heap.size w'.heap.size (fun c=>if F' c then K+8 else if D' c then K+9 else 0) k=K+9:=h2
    omega
  have e:=h.r.putV (u:=u) (t.mono (J':=fun o=>o=K∨o=K+8∨o=K+9) fun o e=>.inr (.inl e)) ⟨ls++[⟨x,s'⟩],rfl,hmono⟩
  have e2:({ a with v:=some vb }:NdAt)=a:=by rw [← ha]
  rw [e2] at e
  refine⟨_,⟨?_,h.ears,?_⟩,t.mono fun o e=>by unfold JK;omega⟩
  ·have hb2:=t.pub h.blk (by rw [h.r.ob];omega)
   exact hb2
  ·rw [show List.map VtS.v ls++[x]=List.map VtS.v (ls++[⟨x,s'⟩]) by rw [List.map_append];rfl]
   exact e
end
end
section
open Go.RowKit
section
variable {own:Nat→Nat} {K:Nat} {w:World} {a:NdAt} {s:Nd} {out:List MsS}
theorem Z61 (h:NdO own K w a s out) (T:Nat) (hT:T<128) (fn:FuncId) (pre caps:Array Value) (hfn:∀ args w,(callFunc fn args).run Tryz.prog w=.ok (.enter fn args) w) (f:Int→Ms)
  (hst:∀ own1 a1 out1 w1 k,NdO own1 K w1 a1 s out1→At0 a a1→Turn (JK K) own own1 w w1→out1.length≤out.length+7→k ∈ Z16 s.id s.n T →
   Calls Tryz.prog fn (pre.push (.int .i64 k)++caps) w1 fun r w2=>r=.returned (.tuple #[])∧∃ own2 a2 o2,NdO own2 K w2 a2 s o2∧o2.map MsS.m=out1.map MsS.m++[f k]∧At0 a1 a2∧Turn (JK K) own1 own2 w1 w2) :
  Calls Tryz.prog 125 #[Z09 a.b, .int .i64 (T:Int), .func (.func fn) pre caps] w fun r w'=>r=.returned (.tuple #[])∧Stp own K w a w' s (out.map MsS.m++(Z16 s.id s.n T).map f):=by
 have h16:=h.r.k16
 have hle:(Z16 s.id s.n T).length≤7:=Nat.le_trans (List.length_filter_le _ _) (Z38 T 7)
 refine (Z4s a.b s.id s.n T hT fn pre caps hfn (fun wb l w1=>∃ own1 a1 o1,NdO own1 K w1 a1 s o1∧o1.map MsS.m=out.map MsS.m++l.map f∧At0 a a1∧Turn (JK K) own own1 w w1 ∧
   ∀ c,w.heap.size≤c→c<wb.heap.size→own1 c=0∧c<w1.heap.size∧w1.heap[c]?=wb.heap[c]?) w ?_ (h.c 0) ?_ ?_ ?_).mono ?_
 ·exact fun wb hb=>⟨own,a,out,h.grow hb,by simp, .refl a, .grow hb h.wf,fun c h1 h2=>⟨h.wf c h1,h2,rfl⟩⟩
 ·rintro wb l w1 ⟨own1,a1,o1,h1,e1,e2,e3,e4⟩
  exact⟨h1.cb e2.b 0,h1.cb e2.b 1⟩
 ·rintro wb l w1 ⟨own1,a1,o1,h1,e1,e2,e3,e4⟩ c hc1 hc2
  exact (e4 c hc1 hc2).2.2
 ·rintro wb l k w1 ⟨own1,a1,o1,h1,e1,e2,e3,e4⟩ hpre
  have hk:k ∈ Z16 s.id s.n T:=hpre.subset (by simp)
  have hlen:o1.length≤out.length+7:=by
   have:=congrArg List.length e1
   simp only [List.length_map,List.length_append] at this
   have:=hpre.length_le
   simp only [List.length_append,List.length_singleton] at this
   omega
  refine (hst own1 a1 o1 w1 k h1 e2 e3 hlen hk).mono ?_
  rintro r w2 ⟨rfl,own2,a2,o2,h2,f1,f2,f3⟩
  refine⟨rfl,own2,a2,o2,h2,by rw [f1,e1,List.map_append,List.append_assoc];rfl,e2.trans f2,e3.trans f3,fun c hc1 hc2=>?_⟩
  obtain⟨g1,g2,g3⟩:=e4 c hc1 hc2
  exact⟨(f3.old c g2).trans g1,Nat.lt_of_lt_of_le g2 f3.chg.size,(f3.chg.block c g2 (by rw [g1];exact jk0 h16)).trans g3⟩
 ·rintro r w' ⟨rfl,wb,hb,own1,a1,o1,h1,e1,e2,e3,e4⟩
  exact⟨rfl,own1,a1,o1,h1,e1,e2,e3⟩
theorem Z6n (h:NdO own K w a s out) (m:Ms) (sa:Option Addr) (sc:Nat) (hs:pubE own w (.slice sa m.ents.length sc) m.ents) (hl:out.length≤1000000000) :
  Calls Tryz.prog 116 #[Z09 a.b,Z0w m (.slice sa m.ents.length sc)] w fun r w'=>r=.returned (.tuple #[])∧∃ own2 a2 o2,NdO own2 K w' a2 s o2∧o2.map MsS.m=out.map MsS.m++[{ m with frm:=s.id,boot:=s.boot }]∧At0 a a2∧Turn (JK K) own own2 w w':=by
 refine (Ze5 own K a s out m sa sc w h hs.1 hs.2 hl).mono ?_
 rintro r w' ⟨rfl,own',ov,h1,t⟩
 exact⟨rfl,own',_,_,h1,by rw [List.map_append];rfl,⟨rfl,rfl,rfl,rfl,rfl⟩,t.mono fun o e=>by unfold JK;omega⟩
theorem Z4e (own:Nat→Nat) (w:World):pubE own w (.slice none 0 0) []:=⟨⟨none,0,rfl,Nat.le_refl _,Nat.zero_le _,fun h=>by simp at h⟩,fun h=>by simp at h⟩
end
end
section
open Go.RowKit
section
variable {own:Nat→Nat} {K:Nat} {w:World} {a:NdAt} {s:Nd} {out:List MsS}
theorem NdO.s4 (h:NdO own K w a s out) (x:Int):NdO own K (w.setCell ⟨a.b,4,none⟩ (.int .i64 x)) a { s with clock:=x } out∧Turn (fun i=>i=K) own own w (w.setCell ⟨a.b,4,none⟩ (.int .i64 x)):=
 h.set 4 _ (by unfold ndC;rw [List.setIfInBounds_toArray];rfl) rfl h.ears fun r=>r.re _ rfl
theorem NdO.s5 (h:NdO own K w a s out) (x:Int):NdO own K (w.setCell ⟨a.b,5,none⟩ (.int .i64 x)) a { s with heard:=x } out∧Turn (fun i=>i=K) own own w (w.setCell ⟨a.b,5,none⟩ (.int .i64 x)):=
 h.set 5 _ (by unfold ndC;rw [List.setIfInBounds_toArray];rfl) rfl h.ears fun r=>r.re _ rfl
theorem NdO.s10 (h:NdO own K w a s out) (x:Int):NdO own K (w.setCell ⟨a.b,10,none⟩ (.int .i64 x)) a { s with com:=x } out∧Turn (fun i=>i=K) own own w (w.setCell ⟨a.b,10,none⟩ (.int .i64 x)):=
 h.set 10 _ (by unfold ndC;rw [List.setIfInBounds_toArray];rfl) rfl h.ears fun r=>r.re _ rfl
theorem NdO.s11 (h:NdO own K w a s out) (x:Int):NdO own K (w.setCell ⟨a.b,11,none⟩ (.int .i64 x)) a { s with last:=x } out∧Turn (fun i=>i=K) own own w (w.setCell ⟨a.b,11,none⟩ (.int .i64 x)):=
 h.set 11 _ (by unfold ndC;rw [List.setIfInBounds_toArray];rfl) rfl h.ears fun r=>r.re _ rfl
theorem NdO.s12 (h:NdO own K w a s out) (x:Int):NdO own K (w.setCell ⟨a.b,12,none⟩ (.int .i64 x)) a { s with mem:=x } out∧Turn (fun i=>i=K) own own w (w.setCell ⟨a.b,12,none⟩ (.int .i64 x)):=
 h.set 12 _ (by unfold ndC;rw [List.setIfInBounds_toArray];rfl) rfl h.ears fun r=>r.re _ rfl
theorem NdO.s17n (h:NdO own K w a s out):NdO own K (w.setCell ⟨a.b,17,none⟩ (.pointer none)) { a with v:=none } { s with v:=none } out∧Turn (fun i=>i=K) own own w (w.setCell ⟨a.b,17,none⟩ (.pointer none)):=
 h.set 17 _ (by unfold ndC;rw [List.setIfInBounds_toArray];rfl) rfl h.ears fun r=>r.noV
theorem NdO.s18 (h:NdO own K w a s out) (x:Int):NdO own K (w.setCell ⟨a.b,18,none⟩ (.int .i64 x)) a { s with denied:=x } out∧Turn (fun i=>i=K) own own w (w.setCell ⟨a.b,18,none⟩ (.int .i64 x)):=
 h.set 18 _ (by unfold ndC;rw [List.setIfInBounds_toArray];rfl) rfl h.ears fun r=>r.re _ rfl
theorem NdO.s19 (h:NdO own K w a s out) (x:Bool):NdO own K (w.setCell ⟨a.b,19,none⟩ (.bool x)) a { s with again:=x } out∧Turn (fun i=>i=K) own own w (w.setCell ⟨a.b,19,none⟩ (.bool x)):=
 h.set 19 _ (by unfold ndC;rw [List.setIfInBounds_toArray];rfl) rfl h.ears fun r=>r.re _ rfl
theorem NdO.s20 (h:NdO own K w a s out) (x:Bool):NdO own K (w.setCell ⟨a.b,20,none⟩ (.bool x)) a { s with mine:=x } out∧Turn (fun i=>i=K) own own w (w.setCell ⟨a.b,20,none⟩ (.bool x)):=
 h.set 20 _ (by unfold ndC;rw [List.setIfInBounds_toArray];rfl) rfl h.ears fun r=>r.re _ rfl
theorem NdO.s22 (h:NdO own K w a s out) (x:Int):NdO own K (w.setCell ⟨a.b,22,none⟩ (.int .i64 x)) a { s with start:=x } out∧Turn (fun i=>i=K) own own w (w.setCell ⟨a.b,22,none⟩ (.int .i64 x)):=
 h.set 22 _ (by unfold ndC;rw [List.setIfInBounds_toArray];rfl) rfl h.ears fun r=>r.re _ rfl
theorem NdO.s23 (h:NdO own K w a s out) (x:Int):NdO own K (w.setCell ⟨a.b,23,none⟩ (.int .i64 x)) a { s with acked:=x } out∧Turn (fun i=>i=K) own own w (w.setCell ⟨a.b,23,none⟩ (.int .i64 x)):=
 h.set 23 _ (by unfold ndC;rw [List.setIfInBounds_toArray];rfl) rfl h.ears fun r=>r.re _ rfl
theorem NdO.s32n (h:NdO own K w a s out):NdO own K (w.setCell ⟨a.b,32,none⟩ (.slice none 0 0)) { a with av:=.slice none 0 0 } { s with asked:=[] } out∧Turn (fun i=>i=K) own own w (w.setCell ⟨a.b,32,none⟩ (.slice none 0 0)):=
 h.set 32 _ (by rw [Z7a a s h.ears];rfl) rfl h.ears fun r=>r.noA
theorem NdO.sear (h:NdO own K w a s out) (i:Nat) (hi:i<8) (x:Int):NdO own K (w.setCell ⟨a.b,24+i,none⟩ (.int .i64 x)) a { s with ears:=s.ears.set i x } out∧Turn (fun i=>i=K) own own w (w.setCell ⟨a.b,24+i,none⟩ (.int .i64 x)):=
 h.set (24+i) _ (Zfo a s h.ears i hi x) rfl (by show (s.ears.set i x).length=8;rw [List.length_set];exact h.ears) fun r=>r.re _ rfl
theorem jkK {K:Nat}:∀ o,o=K→JK K o:=fun o e=>by unfold JK;omega
theorem NdO.newV (h:NdO own K w a s out) (u:Int) (hv:vtO 173 184 (w.alloc (.cells #[.int .i64 u, .int .i64 s.n, .slice none 0 0] 173)) (fun k=>k=w.heap.size) (fun _=>False) w.heap.size u s.n []) :
  ∃ own',NdO own' K ((w.alloc (.cells #[.int .i64 u, .int .i64 s.n, .slice none 0 0] 173)).setCell ⟨a.b,17,none⟩ (Z09 w.heap.size)) { a with v:=some w.heap.size } { s with v:=some (u,[]) } out ∧
    Turn (JK K) own own' w ((w.alloc (.cells #[.int .i64 u, .int .i64 s.n, .slice none 0 0] 173)).setCell ⟨a.b,17,none⟩ (Z09 w.heap.size)):=by
 have hk:=h.r.k16
 have t:=Turn.extJ (own:=own) (J:=fun o=>o=K) (K+8) (w:=w) (w':=(w.alloc (.cells #[.int .i64 u, .int .i64 s.n, .slice none 0 0] 173)).setCell ⟨a.b,17,none⟩ (Z09 w.heap.size)) (Z06 (.of_below ((Below.refl _ _).alloc (Nat.le_refl _) _)) h.r.ob)
 have hl:=h.lt
 have hv2:vtO 173 184 ((w.alloc (.cells #[.int .i64 u, .int .i64 s.n, .slice none 0 0] 173)).setCell ⟨a.b,17,none⟩ (Z09 w.heap.size)) (fun k=>k=w.heap.size) (fun _=>False) w.heap.size u s.n []:=
  hv.chg (G:=fun k=>k=a.b) (Z06 (Chg.refl _ _) rfl) (fun k e=>by omega) (fun k e=>e.elim)
 have hs:((w.alloc (.cells #[.int .i64 u, .int .i64 s.n, .slice none 0 0] 173)).setCell ⟨a.b,17,none⟩ (Z09 w.heap.size)).heap.size=w.heap.size+1:=by rw [World.size_setCell,World.size_alloc]
 rw [hs] at t
 refine⟨_,⟨?_,h.ears,h.r.putV (t.mono fun o e=>.inl e) ⟨[],rfl,hv2.monoF (fun k e=>?_) (fun k e=>e.elim) (fun k e1 e2=>?_)⟩⟩,t.mono jkK⟩
 ·have:=Z0d (o:=17) (u:=Z09 w.heap.size) (Z4l (.cells #[.int .i64 u, .int .i64 s.n, .slice none 0 0] 173) h.blk)
  rw [this]
  unfold ndC
  rw [List.setIfInBounds_toArray];rfl
 ·subst e
  exact Z20 (by omega) (by omega)
 ·have h1:Z5q own w.heap.size (w.heap.size+1) (K+8) k=K+8:=e1
  have h2:Z5q own w.heap.size (w.heap.size+1) (K+8) k=K+9:=e2
  omega
end
end
section
open Go.RowKit
section
variable {own:Nat→Nat} {K:Nat} {w:World} {a:NdAt} {s:Nd} {out:List MsS}
theorem Ziv (n:Int) (h3:3≤n) (h7:n≤7):wrap64 (wrap64 (2 ^ n.toNat)-1)=((2 ^ n.toNat-1:Nat):Int):=by
 rcases (by omega:n=3∨n=4∨n=5∨n=6∨n=7) with rfl | rfl | rfl | rfl | rfl
 all_goals decide +kernel
theorem Zcm (w:World) (o:Obj) (p:Addr) (u:Value):Chg Z1j (w.alloc o) ((w.setCell p u).alloc o):=⟨rfl,rfl,rfl,by simp [World.size_setCell],fun k _ hF=>absurd trivial hF⟩
theorem Z8h (w:World) (o o':Obj):Chg Z1j (w.alloc o) (w.alloc o'):=⟨rfl,rfl,rfl,by simp,fun k _ hF=>absurd trivial hF⟩
theorem Z9e (h:NdO own K w a s out) (k u:Int) (b pb nb:Nat) (hb:a.b=b) (h1:w.heap[pb]?=some (.cells #[Z09 b] 30 (0,0))) (h2:w.heap[nb]?=some (.cells #[.int .i64 u] 2 (0,0))) (hl:out.length≤1000000000) :
  Calls Tryz.prog 141 #[.int .i64 k, .pointer (some ⟨pb,0,none⟩), .pointer (some ⟨nb,0,none⟩)] w fun r w'=>r=.returned (.tuple #[])∧∃ own2 a2 o2,NdO own2 K w' a2 s o2∧o2.map MsS.m=out.map MsS.m++[{ s.ms 1 k with view:=u }]∧At0 a a2∧Turn (JK K) own own2 w w':=by
 subst hb
 have c1:w.cell? ⟨pb,0,none⟩=some (Z09 a.b):=Z00 h1 0
 have c2:w.cell? ⟨nb,0,none⟩=some (.int .i64 u):=Z00 h2 0
 have l1:=Z04 h1
 have l2:=Z04 h2
 have hS:=hd_ (Z6n h ⟨1,0,k,0,u,0,0,0,[],0,0,0,false⟩ none 0 (Z4e own w) hl)
 clear h h1 h2
 go_enter Tryz.func141,Tryz.ntmps141
 go_wp2_with fail
 refine hS.out.mono ?_
 rintro r w1 ⟨rfl,h⟩
 replace h:=hd_ h
 go_wp2
 go_end0
 exact⟨rfl,h.out⟩
theorem Z43 (c:Nat) (h:NdO own K w a s out) (hok:Ok c s) (hl:out.length≤1000000) :
  Calls Tryz.prog 76 #[Z09 a.b] w fun r w'=>r=.returned (.tuple #[])∧Stp own K w a w' s.propose.1 (out.map MsS.m++s.propose.2):=by
 have hn3:=hok.n3
 have hn7:=hok.n7
 have hi1:=hok.i1
 have hin:=hok.in_
 have hd0:=hok.d0
 have hd1:=hok.d1
 have he0:=hok.e0
 have he1:=hok.e1
 have h16:=h.r.k16
 obtain⟨v0,hv0⟩:∃ v0,max s.dv s.denied+1=v0:=⟨_,rfl⟩
 have hv1:1≤v0∧v0≤1099511627777:=by omega
 obtain⟨U,hU⟩:∃ U,s.nextV=U:=⟨_,rfl⟩
 have hUd:upV s.id s.n 7 v0=U:=by rw [← hv0];exact hU
 have hrc:=Zcg hn3 hn7 hi1 hin hv1.1
 have hge:=Zik s.id s.n 7 v0
 rw [hUd] at hge
 have hdec:=Zil 7 hrc
 rw [hUd] at hdec
 obtain⟨W0,hW0⟩:∃ W,W=w.alloc (.cells #[Z09 a.b] 30):=⟨_,rfl⟩
 have hB0:Below w.heap.size w W0:=hW0 ▸ (Below.refl _ _).alloc (Nat.le_refl _) _
 have hp0:W0.heap[w.heap.size]?=some (.cells #[Z09 a.b] 30 (0,0)):=hW0 ▸ Z0a _ _
 obtain⟨pb,hpb⟩:∃ pb,pb=w.heap.size:=⟨_,rfl⟩
 rw [← hpb] at hp0
 have hN0:=hd_ (h.grow hB0)
 have hdv:=h.dv
 replace h:=hd_ h
 replace hok:=hd_ hok
 replace hp0:=hd_ hp0
 replace hB0:=hd_ hB0
 replace hv0:=hd_ hv0
 replace hU:=hd_ hU
 replace hUd:=hd_ hUd
 replace hrc:=hd_ hrc
 replace hdec:=hd_ hdec
 replace hpb:=hd_ hpb
 go_enter Tryz.func76,Tryz.ntmps76
 go_upto_region 1 with (fail)
 rw [← hW0,← hpb.out]
 replace hW0:=hd_ hW0
 go_cut [2] (fun z wx=>∃ nb,z=.pointer (some ⟨nb,0,none⟩)∧wx.heap[nb]?=some (.cells #[.int .i64 v0] 2 (0,0))∧wx.heap[pb]?=some (.cells #[Z09 a.b] 30 (0,0))∧pb≠nb∧w.heap.size≤nb∧Below w.heap.size w wx)
 case first=>
  have hmx0:0≤max s.dv s.denied:=by omega
  have hmx1:max s.dv s.denied≤1099511627776:=by omega
  go_upto_region 1 with (fail)
  refine Z05 (fun _=>False) (.q 0 (.q 1 (.q 2 (.q 3 (.q 5 (.q 6 (.q 7 (.q 8 (.two 4 (.q 9 (.q 10 (.l 11 (.cut (.l 12 .fin))))) 11 (.l 4 (.q 9 (.q 10 (.cut (.l 12 .fin)))))))))))))) (by kernel_rfl) (by kernel_rfl) ?_
  intro w1 hhw1 hbw1
  have hNw1:=hN0.out.grow hbw1
  have u2:=Z01 (F:=fun _=>False) (b:=w1) (fun h=>h) (show w1.cell? ⟨a.b,2,none⟩=some (.pointer (some ⟨a.dk,a.od,none⟩)) from hNw1.c 2)
  have u18:=Z01 (F:=fun _=>False) (b:=w1) (fun h=>h) (show w1.cell? ⟨a.b,18,none⟩=some (.int .i64 s.denied) from hNw1.c 18)
  have hlw1:=hNw1.lt
  have hp1:=Z02 hp0.out hbw1
  have up:=Z01 (F:=fun _=>False) (b:=w1) (fun h=>h) (show w1.cell? ⟨pb,0,none⟩=some (Z09 a.b) from Z00 hp1 0)
  have hdv1:=hNw1.dv
  have hlp:=Z04 hp1
  have hBw1:=hd_ (hB0.out.trans (hbw1.mono hB0.out.size))
  replace hp1:=hd_ hp1
  replace hNw1:=hd_ hNw1
  clear hhw1
  replace hbw1:=hd_ hbw1
  iterate 8 (refine Z0n rfl ?_;go_big_quiet_step (fail);refine wpQuiet_nil ?_)
  refine Zhh ?_ ?_
  ·refine Z0j rfl (by kernel_rfl) ?_
   intro K1 hK
   go_simp
   refine (Z1m a.dk a.od s.dv w1 hdv1).mono ?_
   rintro r w2 ⟨rfl,rfl⟩
   refine hK _ _ (Chg.refl _ _) ?_
   clear hK K1
   refine Z0n rfl ?_;go_big_quiet_step (fail);refine wpQuiet_nil ?_
   refine Z0n rfl ?_;go_big_quiet_step (fail);refine wpQuiet_nil ?_
   refine Z0j rfl (by kernel_rfl) ?_
   intro K1 hK
   go_simp
   refine hK _ _ (Z1a (Chg.refl _ _)) ?_
   clear hK K1
   refine Z0h Z1j ?_
   refine Z0j rfl (by kernel_rfl) ?_
   intro K1 hK
   go_simp
   refine hK _ _ (Z8h _ _ _) ?_
   clear hK K1
   refine Z0c ?_
   go_wp2_with fail
   go_meet
   exact⟨w1.heap.size,rfl,hv0.out ▸ Z0a _ _,Z4l _ hp1.out,by omega,hBw1.out.size,hBw1.out.alloc hBw1.out.size _⟩
  ·refine Z0j rfl (by kernel_rfl) ?_
   intro K1 hK
   go_simp
   refine hK _ _ (Z1a (Chg.refl _ _)) ?_
   clear hK K1
   refine Z0j rfl (by kernel_rfl) ?_
   intro K1 hK
   go_simp
   refine (Z1m a.dk a.od s.dv _ (by rw [((Below.refl w1.heap.size w1).alloc (Nat.le_refl _) _).cell (Z0f hdv1)];exact hdv1)).mono ?_
   rintro r w2 ⟨rfl,rfl⟩
   refine hK _ _ (Z1a (Chg.refl _ _)) ?_
   clear hK K1
   refine Z0n rfl ?_;go_big_quiet_step (fail);refine wpQuiet_nil ?_
   refine Z0n rfl ?_;go_big_quiet_step (fail);refine wpQuiet_nil ?_
   refine Z0h Z1j ?_
   refine Z0j rfl (by kernel_rfl) ?_
   intro K1 hK
   go_simp
   refine hK _ _ (Z8h _ _ _) ?_
   clear hK K1
   refine Z0c ?_
   go_wp2_with fail
   go_meet
   exact⟨w1.heap.size,rfl,hv0.out ▸ Z0a _ _,Z4l _ hp1.out,by omega,hBw1.out.size,hBw1.out.alloc hBw1.out.size _⟩
 case rest=>
  obtain⟨nb,rfl,hnb,hpw,hne,hge0,hBw⟩:=hcut
  rename World=>wz
  replace hnb:=hd_ hnb
  replace hpw:=hd_ hpw
  replace hBw:=hd_ hBw
  go_wp2
  go_loopw [14] (fun _ wr=>∃ (f:Nat) (u:Int),upV s.id s.n f u=U∧Zij s.id s.n f u∧v0≤u∧u≤U∧wr.heap[nb]?=some (.cells #[.int .i64 u] 2 (0,0))∧wr.heap[pb]?=some (.cells #[Z09 a.b] 30 (0,0))∧Below w.heap.size w wr) (fun _ wr=>(U-intOf ((wr.cell? ⟨nb,0,none⟩).getD (.int .i64 0))).toNat)
  case atStart=>exact⟨7,v0,hUd.out,hrc.out,Int.le_refl _,hge.1,hnb.out,hpw.out,hBw.out⟩
  case round=>
   obtain⟨f,u,hfu,hfr,hvu,huU,hnb2,hpb2,hB2⟩:=hrel
   have hN2:=hd_ (h.out.grow hB2)
   have c0:wr.cell? ⟨a.b,0,none⟩=some (.int .i64 s.id):=hN2.out.c 0
   have c1:wr.cell? ⟨a.b,1,none⟩=some (.int .i64 s.n):=hN2.out.c 1
   have cn:wr.cell? ⟨nb,0,none⟩=some (.int .i64 u):=Z00 hnb2 0
   have hcn:=hd_ cn
   have cp:wr.cell? ⟨pb,0,none⟩=some (Z09 a.b):=Z00 hpb2 0
   have la:=hN2.out.lt
   have ln:=Z04 hnb2
   have lp:=Z04 hpb2
   have hD:Hid (∀ y,Calls Tryz.prog 89 #[.int .i64 u, .int .i64 s.n] (Z1c wr y) fun r w'=>r=.returned (.int .i64 (Z1y u s.n))∧∃ z,w'=Z1c wr z):=hd_ fun y=>Z0o (Z0p u s.n _ (by omega) (by omega))
   replace hnb2:=hd_ hnb2
   replace hpb2:=hd_ hpb2
   replace hB2:=hd_ hB2
   replace hfu:=hd_ hfu
   replace hfr:=hd_ hfr
   go_upto_region 2 with (fail)
   have u0:=Z07 c0
   have u1:=Z07 c1
   have un:=Z07 cn
   have up:=Z07 cp
   refine Z08 (by kernel_rfl) (by kernel_rfl) ?_
   repeat (go_big_quiet_step (first | (go_at_call 89;exact hD.out _) | fail))
   refine wpQuiet_nil ?_
   intro w3 hw3
   have hb3:=Z0e hw3
   have hB3:=hd_ (hB2.out.trans (hb3.mono hB2.out.size))
   have hnb3:=Z02 hnb2.out hb3
   have hpb3:=Z02 hpb2.out hb3
   have hN3:=hd_ (h.out.grow hB3.out)
   clear hw3 hb3 u0 u1 un up c0 c1 cn cp la ln lp hN2 hnb2 hpb2 hB2 hD
   by_cases hid:Z1y u s.n=s.id
   case neg=>
    have hb:(Z1y u s.n != s.id)=true:=by simpa using hid
    obtain⟨f',rfl,hr2,he2⟩:=Ze7 hid hfr.out
    have hfu2:upV s.id s.n f' (u+1)=U:=by rw [← he2];exact hfu.out
    have hge2:=Zik s.id s.n f' (u+1)
    rw [hfu2] at hge2
    have cn:w3.cell? ⟨nb,0,none⟩=some (.int .i64 u):=Z00 hnb3 0
    have zn:=Z03 hnb3 0
    have ln:=Z04 hnb3
    have hnb4:=hd_ (show (w3.setCell ⟨nb,0,none⟩ (.int .i64 (u+1))).heap[nb]?=some (.cells #[.int .i64 (u+1)] 2 (0,0)) from Z0d hnb3)
    have hpb4:=hd_ (show (w3.setCell ⟨nb,0,none⟩ (.int .i64 (u+1))).heap[pb]?=some (.cells #[Z09 a.b] 30 (0,0)) from Z0u hpb3 hne)
    have hB4:=hd_ (show Below w.heap.size w (w3.setCell ⟨nb,0,none⟩ (.int .i64 (u+1))) from hB3.out.setCell hge0 _)
    have cn4:(w3.setCell ⟨nb,0,none⟩ (.int .i64 (u+1))).cell? ⟨nb,0,none⟩=some (.int .i64 (u+1)):=Z00 hnb4.out 0
    replace cn4:=hd_ cn4
    replace hfu2:=hd_ hfu2
    replace hr2:=hd_ hr2
    clear hid he2
    go_wp2
    go_roundw
    case rel=>exact⟨f',u+1,hfu2.out,hr2.out,by omega,hge2.1,hnb4.out,hpb4.out,hB4.out⟩
    case measure=>rw [cn4.out,hcn.out];simp [intOf];omega
   obtain rfl:u=U:=by
    have:=Ze6 f hid
    rw [hfu.out] at this
    exact this.symm
   have hb:(Z1y u s.n != s.id)=false:=by simpa using hid
   clear hid hfu hfr
   replace hnb3:=hd_ hnb3
   replace hpb3:=hd_ hpb3
   have hwf:=h.out.wf
   have hpo:own pb=0:=hwf pb (by have:=hpb.out;omega)
   have hno:own nb=0:=hwf nb hge0
   replace hwf:=hd_ hwf
   have ht3:=hd_ (Turn.grow (J:=JK K) (own:=own) hB3.out h.out.wf)
   go_upto_region 4 with (fail)
   refine Z05 (fun _=>False) (.q 0 (.q 1 (.q 2 (.q 3 (.q 4 (.cut (.l 5 (.q 6 .fin)))))))) (by kernel_rfl) (by kernel_rfl) ?_
   intro w4 hhw4 hbw4
   have hNw4:=hN3.out.grow hbw4
   have u2:=Z01 (F:=fun _=>False) (b:=w4) (fun h=>h) (show w4.cell? ⟨a.b,2,none⟩=some (.pointer (some ⟨a.dk,a.od,none⟩)) from hNw4.c 2)
   have hlw4:=hNw4.lt
   have hp4:=Z02 hpb3.out hbw4
   have hn4:=Z02 hnb3.out hbw4
   have up:=Z01 (F:=fun _=>False) (b:=w4) (fun h=>h) (show w4.cell? ⟨pb,0,none⟩=some (Z09 a.b) from Z00 hp4 0)
   have un:=Z01 (F:=fun _=>False) (b:=w4) (fun h=>h) (show w4.cell? ⟨nb,0,none⟩=some (.int .i64 u) from Z00 hn4 0)
   have hlp:=Z04 hp4
   have hln:=Z04 hn4
   have ht4:=hd_ (ht3.out.trans (Turn.grow (J:=JK K) hbw4 hN3.out.wf))
   replace hp4:=hd_ hp4
   replace hn4:=hd_ hn4
   replace hNw4:=hd_ hNw4
   clear hhw4
   replace hbw4:=hd_ hbw4
   iterate 5 (refine Z0n rfl ?_;go_big_quiet_step (fail);refine wpQuiet_nil ?_)
   refine Z0h Z1j ?_
   refine Z0j rfl (by kernel_rfl) ?_
   intro K1 hK
   go_simp
   by_cases hmx:1099511627776<u
   case pos=>
    refine (Z7b a.dk a.od s.dv u _ hNw4.out.dv (.inr hmx)).mono ?_
    rintro r w5 ⟨rfl,rfl⟩
    refine hK _ _ (Chg.refl _ _) ?_
    clear hK K1
    refine Z0n rfl ?_;go_big_quiet_step (fail);refine wpQuiet_nil ?_
    refine Z0c ?_
    have hmx2:=hd_ hmx
    go_wp2
    refine bodyPost_ret (results_none rfl _ _ _) rfl ?_
    have hp:s.propose=(s,[]):=by unfold Nd.propose;rw [hU.out];exact if_pos (.inr hmx2.out)
    rw [hp]
    refine⟨rfl,?_⟩
    rw [List.append_nil]
    exact hNw4.out.stp (.refl a) ht4.out
   refine (Z7c hNw4.out u (by have:=hv0.out;omega) (by omega)).mono ?_
   rintro r w5 ⟨rfl,hN5,t5⟩
   refine hK _ _ (Z0l t5) ?_
   clear hK K1
   refine Z0n rfl ?_;go_big_quiet_step (fail);refine wpQuiet_nil ?_
   refine Z0c ?_
   have hp5:=hd_ (t5.pub hp4.out (by rw [hpo];omega))
   have hn5:=hd_ (t5.pub hn4.out (by rw [hno];omega))
   have ht5:=hd_ (ht4.out.trans (t5.mono fun o e=>by unfold JK;omega))
   replace hN5:=hd_ hN5
   clear t5 u2 up un hlp hln hlw4
   go_upto_region 5 with (fail)
   refine Z05 (fun _=>False) (.q 0 (.q 1 (.q 2 (.q 3 (.q 4 (.q 5 (.l 6 (.q 7 (.q 8 (.cut (.l 9 .fin))))))))))) (by kernel_rfl) (by kernel_rfl) ?_
   intro w6 hhw6 hbw6
   have hNw6:=hN5.out.grow hbw6
   have u1:=Z01 (F:=fun _=>False) (b:=w6) (fun h=>h) (show w6.cell? ⟨a.b,1,none⟩=some (.int .i64 s.n) from hNw6.c 1)
   have hlw6:=hNw6.lt
   have hp6:=Z02 hp5.out hbw6
   have hn6:=Z02 hn5.out hbw6
   have up:=Z01 (F:=fun _=>False) (b:=w6) (fun h=>h) (show w6.cell? ⟨pb,0,none⟩=some (Z09 a.b) from Z00 hp6 0)
   have un:=Z01 (F:=fun _=>False) (b:=w6) (fun h=>h) (show w6.cell? ⟨nb,0,none⟩=some (.int .i64 u) from Z00 hn6 0)
   have hlp:=Z04 hp6
   have hln:=Z04 hn6
   have ht6:=hd_ (ht5.out.trans (Turn.grow (J:=JK K) hbw6 hN5.out.wf))
   replace hp6:=hd_ hp6
   replace hn6:=hd_ hn6
   replace hNw6:=hd_ hNw6
   clear hhw6
   replace hbw6:=hd_ hbw6
   have q17:w6.cell? ⟨a.b,17,none⟩=some (Z3f a.v):=hNw6.out.c 17
   have z17:=hNw6.out.free 17
   iterate 6 (refine Z0n rfl ?_;go_big_quiet_step (fail);refine wpQuiet_nil ?_)
   refine Z0j rfl (by kernel_rfl) ?_
   intro K1 hK
   go_simp
   refine (vNew_any u s.n _ (by omega) (by omega)).mono ?_
   rintro r w7 hvn
   rcases hvn with ⟨h0,_⟩ | ⟨_,rfl,hvt,rfl⟩
   ·exfalso
    have:=hdec.out
    omega
   replace hvt:=hd_ hvt
   refine hK _ _ (Z1a (Chg.refl _ _)) ?_
   clear hK K1
   refine Z0n rfl ?_;go_big_quiet_step (fail);refine wpQuiet_nil ?_
   refine Z0n rfl ?_;go_big_quiet_step (fail);refine wpQuiet_nil ?_
   refine Z0h Z1j ?_
   refine Z0j rfl (by kernel_rfl) ?_
   intro K1 hK
   go_simp
   obtain⟨own7,hN7,t7⟩:=hNw6.out.newV u hvt.out
   rw [World.setCell_alloc_past (hn:=hNw6.out.lt)] at hN7 t7
   refine hK _ _ (Zcm _ _ _ _) ?_
   clear hK K1
   refine Z0c ?_
   have hp7:=hd_ (t7.pub hp6.out (by rw [hpo];exact jk0 h16))
   have hn7:=hd_ (t7.pub hn6.out (by rw [hno];exact jk0 h16))
   have ht7:=hd_ (ht6.out.trans t7)
   have hpo7:own7 pb=0:=(t7.old pb (Z04 hp6.out)).trans hpo
   have hno7:own7 nb=0:=(t7.old nb (Z04 hn6.out)).trans hno
   obtain⟨vb,hvb⟩:∃ vb,vb=w6.heap.size:=⟨_,rfl⟩
   rw [← hvb] at hN7
   obtain⟨W7,hW7⟩:∃ W,W=(w6.setCell ⟨a.b,17,none⟩ (Z09 w6.heap.size)).alloc (.cells #[.int .i64 u, .int .i64 s.n, .slice none 0 0] 173):=⟨_,rfl⟩
   rw [← hW7]
   rw [← hvb] at hW7
   rw [← hvb,← hW7] at hp7 hn7 ht7
   rw [← hW7] at hN7
   replace hN7:=hd_ hN7
   replace hvb:=hd_ hvb
   replace hW7:=hd_ hW7
   clear t7 q17 z17 u1 up un hlp hln hlw6 hvt
   go_upto_region 6 with (fail)
   refine Z05 (fun _=>False) (.q 0 (.q 1 (.q 2 (.q 3 (.q 4 (.q 5 (.q 6 (.q 7 (.q 8 (.q 9 (.q 10 (.q 11 (.q 12 (.q 13 (.q 14 (.q 15 (.q 17 (.q 18 (.q 19 (.q 20 (.l 16 (.l 21 (.cut (.l 22 .fin)))))))))))))))))))))))) (by kernel_rfl) (by kernel_rfl) ?_
   intro w8 hhw8 hbw8
   have hNw8:=hN7.out.grow hbw8
   have u0:=Z01 (F:=fun _=>False) (b:=w8) (fun h=>h) (show w8.cell? ⟨a.b,0,none⟩=some (.int .i64 s.id) from hNw8.c 0)
   have u9:=Z01 (F:=fun _=>False) (b:=w8) (fun h=>h) (show w8.cell? ⟨a.b,9,none⟩=some (Z09 a.l) from hNw8.c 9)
   have u10:=Z01 (F:=fun _=>False) (b:=w8) (fun h=>h) (show w8.cell? ⟨a.b,10,none⟩=some (.int .i64 s.com) from hNw8.c 10)
   have u11:=Z01 (F:=fun _=>False) (b:=w8) (fun h=>h) (show w8.cell? ⟨a.b,11,none⟩=some (.int .i64 s.last) from hNw8.c 11)
   have hlw8:=hNw8.lt
   have hp8:=Z02 hp7.out hbw8
   have hn8:=Z02 hn7.out hbw8
   have up:=Z01 (F:=fun _=>False) (b:=w8) (fun h=>h) (show w8.cell? ⟨pb,0,none⟩=some (Z09 a.b) from Z00 hp8 0)
   have u17:=Z01 (F:=fun _=>False) (b:=w8) (fun h=>h) (show w8.cell? ⟨a.b,17,none⟩=some (Z09 vb) from hNw8.c 17)
   have hlp:=Z04 hp8
   have ht8:=hd_ (ht7.out.trans (Turn.grow (J:=JK K) hbw8 hN7.out.wf))
   replace hp8:=hd_ hp8
   replace hn8:=hd_ hn8
   replace hNw8:=hd_ hNw8
   clear hhw8
   replace hbw8:=hd_ hbw8
   iterate 20 (refine Z0n rfl ?_;go_big_quiet_step (fail);refine wpQuiet_nil ?_)
   refine Z0j rfl (by kernel_rfl) ?_
   intro K1 hK
   go_simp
   have hlg:rdLog w8 a.l s.L:=hNw8.out.r.lg.rd
   refine (Z19 a.l s.L 0 _ hlg (by have:=hok.out.lg;omega)).mono ?_
   rintro r w9 ⟨v9,rfl,ho9,hb9⟩
   rw [show Z4o s.L 0=s.L by simp [Z4o]] at ho9
   obtain⟨sa9,sc9,rfl⟩:=ho9.rd.len
   have hpe9:=hd_ (pubE.new (own:=own7) ho9 hNw8.out.wf)
   have hN9:=hd_ (hNw8.out.grow hb9)
   have ht9:=hd_ (ht8.out.trans (Turn.grow (J:=JK K) hb9 hNw8.out.wf))
   have hp9:=hd_ (Z02 hp8.out hb9)
   have hn9:=hd_ (Z02 hn8.out hb9)
   clear ho9 hlg
   refine hK _ _ (.of_below hb9) ?_
   clear hK K1
   refine Z0j rfl (by kernel_rfl) ?_
   intro K1 hK
   go_simp
   refine hK _ _ (.of_below hb9) ?_
   clear hK K1
   refine Z0h Z1j ?_
   refine Z0j rfl (by kernel_rfl) ?_
   intro K1 hK
   go_simp
   refine (ndVAdd hN9.out (u:=u) (l:=[]) (vb:=vb) rfl rfl ⟨by omega,by omega,Nat.zero_le _,fun x hx=>by cases hx⟩ ⟨s.id,s.last,s.L,s.com⟩ _ hpe9.out.1).mono ?_
   rintro r w10 ⟨rfl,own10,hN10,t10⟩
   refine hK _ _ (Z0l t10) ?_
   clear hK K1
   refine Z0c ?_
   have hp10:=hd_ (t10.pub hp9.out (by rw [hpo7];exact jk0 h16))
   have hn10:=hd_ (t10.pub hn9.out (by rw [hno7];exact jk0 h16))
   have hpo10:own10 pb=0:=(t10.old pb (Z04 hp9.out)).trans hpo7
   have hno10:own10 nb=0:=(t10.old nb (Z04 hn9.out)).trans hno7
   have ht10:=hd_ (ht9.out.trans t10)
   replace hN10:=hd_ hN10
   clear t10 u0 u9 u10 u11 u17 up hlp hlw8 hb9
   go_upto_region 7 with (fail)
   refine Z05 (fun k=>k=a.b) (.q 0 (.q 1 (.q 2 (.q 3 (.q 4 (.l 5 (.q 6 (.q 7 (.l 8 (.q 9 (.q 10 (.l 11 .fin)))))))))))) (by kernel_rfl) (by kernel_rfl) ?_
   intro w11 hhw11 hbw11
   have hNw11:=hN10.out.grow hbw11
   have hlw11:=hNw11.lt
   have hp11:=Z02 hp10.out hbw11
   have hn11:=Z02 hn10.out hbw11
   have hpa:pb≠a.b:=by have:=h.out.lt;have:=hpb.out;omega
   have hna:nb≠a.b:=by have:=h.out.lt;omega
   have up:=Z01 (F:=fun k=>k=a.b) (b:=w11) hpa (show w11.cell? ⟨pb,0,none⟩=some (Z09 a.b) from Z00 hp11 0)
   have hlp:=Z04 hp11
   have q4:w11.cell? ⟨a.b,4,none⟩=some (.int .i64 s.clock):=hNw11.c 4
   have q5:w11.cell? ⟨a.b,5,none⟩=some (.int .i64 s.heard):=hNw11.c 5
   have q19:w11.cell? ⟨a.b,19,none⟩=some (.bool s.again):=hNw11.c 19
   have z5:=hNw11.free 5
   have z19:=hNw11.free 19
   obtain⟨hN12,t12⟩:=hNw11.s5 s.clock
   obtain⟨hN13,t13⟩:=hN12.s19 false
   have ht13:=hd_ (ht10.out.trans ((Turn.grow (J:=JK K) hbw11 hN10.out.wf).trans ((t12.mono jkK).trans (t13.mono jkK))))
   have hp13:=t13.pub (t12.pub hp11 (by omega)) (by omega)
   have hn13:=t13.pub (t12.pub hn11 (by omega)) (by omega)
   replace hN13:=hd_ hN13
   clear hN12 t12 t13
   replace hp11:=hd_ hp11
   replace hn11:=hd_ hn11
   replace hNw11:=hd_ hNw11
   clear hhw11
   replace hbw11:=hd_ hbw11
   iterate 5 (refine Z0n rfl ?_;go_big_quiet_step (fail);refine wpQuiet_nil ?_)
   refine Z0j rfl (by kernel_rfl) ?_
   intro K1 hK
   go_simp
   refine hK _ _ (Chg.refl _ _) ?_
   clear hK K1
   refine Z0n rfl ?_;go_big_quiet_step (fail);refine wpQuiet_nil ?_
   refine Z0n rfl ?_;go_big_quiet_step (fail);refine wpQuiet_nil ?_
   refine Z0j rfl (by kernel_rfl) ?_
   intro K1 hK
   go_simp
   refine hK _ _ (Z06 (Chg.refl _ _) rfl) ?_
   clear hK K1
   refine Z0n rfl ?_;go_big_quiet_step (fail);refine wpQuiet_nil ?_
   refine Z0n rfl ?_;go_big_quiet_step (fail);refine wpQuiet_nil ?_
   refine Z0j rfl (by kernel_rfl) ?_
   intro K1 hK
   go_simp
   refine hK _ _ (Z06 (Z06 (Chg.refl _ _) rfl) rfl) ?_
   clear hK K1
   refine Z0c ?_
   obtain⟨W13,hW13⟩:∃ W,W=(w11.setCell ⟨a.b,5,none⟩ (.int .i64 s.clock)).setCell ⟨a.b,19,none⟩ (.bool false):=⟨_,rfl⟩
   rw [← hW13]
   rw [← hW13] at hN13 ht13 hp13 hn13
   replace hW13:=hd_ hW13
   clear up hlp q4 q5 q19 z5 z19 hlw11
   have cp:W13.cell? ⟨pb,0,none⟩=some (Z09 a.b):=Z00 hp13 0
   have c16:W13.cell? ⟨a.b,16,none⟩=some (Z09 a.f):=hN13.out.c 16
   have lp:=Z04 hp13
   have la:=hN13.out.lt
   replace hp13:=hd_ hp13
   replace hn13:=hd_ hn13
   go_wp2_with fail
   refine (Zii hN13.out).mono ?_
   rintro r w14 ⟨rfl,own14,hN14,t14⟩
   have t14:=t14.mono (J':=JK K) fun o e=>by unfold JK;omega
   have hp14:=hd_ (t14.pub hp13.out (by rw [hpo10];exact jk0 h16))
   have hn14:=hd_ (t14.pub hn13.out (by rw [hno10];exact jk0 h16))
   have hpo14:own14 pb=0:=(t14.old pb (Z04 hp13.out)).trans hpo10
   have hno14:own14 nb=0:=(t14.old nb (Z04 hn13.out)).trans hno10
   have ht14:=hd_ (ht13.out.trans t14)
   replace hN14:=hd_ hN14
   clear t14 cp c16 lp la
   go_upto_region 9 with (fail)
   refine Z05 (fun _=>False) (.q 0 (.q 1 (.q 2 (.q 3 (.q 4 (.q 5 (.q 6 (.l 7 (.cut (.l 8 .fin)))))))))) (by kernel_rfl) (by kernel_rfl) ?_
   intro w15 hhw15 hbw15
   have hNw15:=hN14.out.grow hbw15
   have u1:=Z01 (F:=fun _=>False) (b:=w15) (fun h=>h) (show w15.cell? ⟨a.b,1,none⟩=some (.int .i64 s.n) from hNw15.c 1)
   have hlw15:=hNw15.lt
   have hp15:=Z02 hp14.out hbw15
   have hn15:=Z02 hn14.out hbw15
   have up:=Z01 (F:=fun _=>False) (b:=w15) (fun h=>h) (show w15.cell? ⟨pb,0,none⟩=some (Z09 a.b) from Z00 hp15 0)
   have hlp:=Z04 hp15
   have ht15:=hd_ (ht14.out.trans (Turn.grow (J:=JK K) hbw15 hN14.out.wf))
   replace hp15:=hd_ hp15
   replace hn15:=hd_ hn15
   replace hNw15:=hd_ hNw15
   clear hhw15
   replace hbw15:=hd_ hbw15
   iterate 7 (refine Z0n rfl ?_;go_big_quiet_step (fail);refine wpQuiet_nil ?_)
   refine Z0j rfl (by kernel_rfl) ?_
   intro K1 hK
   go_simp
   refine hK _ _ (Chg.refl _ _) ?_
   clear hK K1
   refine Z0h Z1j ?_
   refine Z0j rfl (by kernel_rfl) ?_
   intro K1 hK
   go_simp
   have hT:=Ziv s.n hok.out.n3 hok.out.n7
   have hn7s:=hok.out.n7
   have hTl:2 ^ s.n.toNat-1<128:=by
    rcases (by omega:s.n=3∨s.n=4∨s.n=5∨s.n=6∨s.n=7) with e | e | e | e | e<;>rw [e]<;>decide
   have hTa:s.all.toNat=2 ^ s.n.toNat-1:=by
    unfold Nd.all
    rcases (by omega:s.n=3∨s.n=4∨s.n=5∨s.n=6∨s.n=7) with e | e | e | e | e<;>rw [e]<;>rfl
   rw [hT]
   refine (Z61 hNw15.out (2 ^ s.n.toNat-1) hTl 141 #[] #[.pointer (some ⟨pb,0,none⟩), .pointer (some ⟨nb,0,none⟩)] (Zam Tryz.func141 (by kernel_rfl) (by kernel_rfl)) (fun k=>{ s.ms 1 k with view:=u }) ?_).mono ?_
   ·intro own1 a1 out1 w1 k h1 e1 t1 hlen hk
    exact Z9e h1 k u a.b pb nb e1.b (t1.pub hp15.out (by rw [hpo14];exact jk0 h16)) (t1.pub hn15.out (by rw [hno14];exact jk0 h16)) (by omega)
   rintro r w16 ⟨rfl,hst⟩
   refine hK _ _ (by obtain⟨_,_,_,_,_,_,t⟩:=hst;exact Z0l t) ?_
   clear hK K1
   refine Z0c ?_
   have hst2:=hd_ (hst.after (At0.mk rfl rfl rfl rfl rfl:At0 a { a with v:=some vb }) ht15.out)
   clear hst hT
   go_wp2
   go_end0
   have hp:s.propose=(s.proposes,(s.others s.all).map fun k=>{ s.ms 1 k with view:=u }):=by
    unfold Nd.propose
    rw [hU.out]
    exact if_neg (by have:=hv0.out;omega)
   have hps:s.proposes={ s with dv:=u,v:=some (u,Zbx u s.n [] ⟨s.id,s.last,s.L,s.com⟩),heard:=s.clock,again:=false,pf:=s.pf.drop }:=by
    unfold Nd.proposes
    rw [hU.out]
   rw [hp,hps]
   refine⟨rfl,?_⟩
   have:=hst2.out
   unfold Nd.others
   rw [hTa]
   exact this
end
end
section
open Go.RowKit
section
variable {own:Nat→Nat} {K:Nat} {w:World} {a:NdAt} {s:Nd} {out:List MsS}
theorem Z9f (l:List Ent):Z4o l 0=l:=by simp [Z4o]
theorem Z8i (h:NdO own K w a s out) (k:Int) (b:Nat) (hb:a.b=b) (h60:s.L.length≤60) (hl:out.length≤1000000000) :
  Calls Tryz.prog 135 #[Z09 b, .int .i64 k] w fun r w'=>r=.returned (.tuple #[])∧∃ own2 a2 o2,NdO own2 K w' a2 s o2∧o2.map MsS.m=out.map MsS.m++[s.whole k]∧At0 a a2∧Turn (JK K) own own2 w w':=by
 subst hb
 replace h:=hd_ h
 go_enter Tryz.func135,Tryz.ntmps135
 go_upto_region 0 with (fail)
 refine Z05 (fun _=>False) (.q 0 (.q 1 (.q 2 (.q 3 (.q 4 (.q 5 (.q 6 (.q 7 (.q 8 (.q 9 (.q 10 (.q 11 (.q 12 (.q 13 (.q 15 (.q 16 (.q 17 (.q 18 (.l 14 (.l 19 (.cut (.l 20 .fin)))))))))))))))))))))) (by kernel_rfl) (by kernel_rfl) ?_
 intro w1 hhw1 hbw1
 have hNw1:=h.out.grow hbw1
 have u9:=Z01 (F:=fun _=>False) (b:=w1) (fun h=>h) (show w1.cell? ⟨a.b,9,none⟩=some (Z09 a.l) from hNw1.c 9)
 have u10:=Z01 (F:=fun _=>False) (b:=w1) (fun h=>h) (show w1.cell? ⟨a.b,10,none⟩=some (.int .i64 s.com) from hNw1.c 10)
 have u11:=Z01 (F:=fun _=>False) (b:=w1) (fun h=>h) (show w1.cell? ⟨a.b,11,none⟩=some (.int .i64 s.last) from hNw1.c 11)
 have u12:=Z01 (F:=fun _=>False) (b:=w1) (fun h=>h) (show w1.cell? ⟨a.b,12,none⟩=some (.int .i64 s.mem) from hNw1.c 12)
 have hlw1:=hNw1.lt
 replace hNw1:=hd_ hNw1
 clear hhw1
 replace hbw1:=hd_ hbw1
 iterate 18 (refine Z0n rfl ?_;go_big_quiet_step (fail);refine wpQuiet_nil ?_)
 refine Z0j rfl (by kernel_rfl) ?_
 intro K1 hK
 go_simp
 refine (Z19 a.l s.L 0 _ hNw1.out.r.lg.rd (by omega)).mono ?_
 rintro r w2 ⟨v2,rfl,ho2,hb2⟩
 rw [Z9f] at ho2
 obtain⟨sa,sc,rfl⟩:=ho2.rd.len
 have hpe2:=hd_ (pubE.new (own:=own) ho2 hNw1.out.wf)
 have hN2:=hd_ (hNw1.out.grow hb2)
 have t2:=hd_ ((Turn.grow (J:=JK K) (own:=own) hbw1.out h.out.wf).trans (Turn.grow (J:=JK K) hb2 hNw1.out.wf))
 clear ho2
 refine hK _ _ (.of_below hb2) ?_
 clear hK K1
 refine Z0j rfl (by kernel_rfl) ?_
 intro K1 hK
 go_simp
 refine hK _ _ (.of_below hb2) ?_
 clear hK K1
 refine Z0h Z1j ?_
 refine Z0j rfl (by kernel_rfl) ?_
 intro K1 hK
 go_simp
 refine (Z6n hN2.out ⟨4,0,k,0,s.last,0,s.mem,0,s.L,s.com,0,0,false⟩ sa sc hpe2.out hl).mono ?_
 rintro r w3 ⟨rfl,own3,a3,o3,hN3,e3,f3,t3⟩
 refine hK _ _ (Z0l t3) ?_
 clear hK K1
 refine Z0c ?_
 have hT:=hd_ (t2.out.trans t3)
 replace hN3:=hd_ hN3
 replace e3:=hd_ e3
 clear t3
 go_wp2
 go_end0
 exact⟨rfl,own3,a3,o3,hN3.out,e3.out,f3,hT.out⟩
theorem Z6r (h:NdO own K w a s out) (k num:Int) (hl:out.length≤1000000000) :
  Calls Tryz.prog 164 #[Z09 a.b, .int .i64 k, .int .i64 num] w fun r w'=>r=.returned (.tuple #[])∧Stp own K w a w' s (out.map MsS.m++[s.ackM k num]):=by
 replace h:=hd_ h
 go_enter Tryz.func164,Tryz.ntmps164
 go_upto_region 0 with (fail)
 refine Z05 (fun _=>False) (.q 0 (.q 1 (.q 2 (.q 3 (.q 4 (.q 5 (.q 6 (.q 7 (.q 8 (.q 9 (.q 11 (.l 10 (.l 12 (.cut (.l 13 .fin))))))))))))))) (by kernel_rfl) (by kernel_rfl) ?_
 intro w1 hhw1 hbw1
 have hNw1:=h.out.grow hbw1
 have u9:=Z01 (F:=fun _=>False) (b:=w1) (fun h=>h) (show w1.cell? ⟨a.b,9,none⟩=some (Z09 a.l) from hNw1.c 9)
 have u11:=Z01 (F:=fun _=>False) (b:=w1) (fun h=>h) (show w1.cell? ⟨a.b,11,none⟩=some (.int .i64 s.last) from hNw1.c 11)
 have hlw1:=hNw1.lt
 replace hNw1:=hd_ hNw1
 clear hhw1
 replace hbw1:=hd_ hbw1
 iterate 11 (refine Z0n rfl ?_;go_big_quiet_step (fail);refine wpQuiet_nil ?_)
 refine Z0j rfl (by kernel_rfl) ?_
 intro K1 hK
 go_simp
 refine (Z0m a.l s.L _ hNw1.out.r.lg.rd).mono ?_
 rintro r w2 ⟨rfl,rfl⟩
 have t1:=hd_ (Turn.grow (J:=JK K) (own:=own) hbw1.out h.out.wf)
 refine hK _ _ (Chg.refl _ _) ?_
 clear hK K1
 refine Z0j rfl (by kernel_rfl) ?_
 intro K1 hK
 go_simp
 refine hK _ _ (Chg.refl _ _) ?_
 clear hK K1
 refine Z0h Z1j ?_
 refine Z0j rfl (by kernel_rfl) ?_
 intro K1 hK
 go_simp
 refine (Z6n hNw1.out ⟨6,0,k,0,s.last,0,0,s.L.length,[],0,num,0,false⟩ none 0 (Z4e _ _) hl).mono ?_
 rintro r w3 ⟨rfl,own3,a3,o3,hN3,e3,f3,t3⟩
 refine hK _ _ (Z0l t3) ?_
 clear hK K1
 refine Z0c ?_
 have hT:=hd_ (t1.out.trans t3)
 replace hN3:=hd_ hN3
 replace e3:=hd_ e3
 clear t3
 go_wp2
 go_end0
 exact⟨rfl,own3,a3,o3,hN3.out,e3.out,f3,hT.out⟩
end
end
end Go.Proofs.YtbonjbokofkafaaGreat
