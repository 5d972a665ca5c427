/- Lemmas of the proof: PkErr. -/
import Derived.Test.YtbonjbokofkafaaGreatPkZ
import Derived.Test.YtbonjbokofkafaaGreatPkA
namespace Go.Proofs.YtbonjbokofkafaaGreat
set_option linter.unusedVariables false
set_option maxRecDepth 100000
set_option maxHeartbeats 64000000
section
open Go.RowKit
def WE:Wl:=((Wl.make 3).step 6 2 0 0 0 ByteArray.empty).1
theorem WE_n:WE.n=3:=rfl
theorem WE_net:WE.net=[]:=rfl
theorem WE_real:WE.real=0:=rfl
theorem WE_cost:WE.roundsC 200≤300000:=by decide +kernel
theorem WE_d:chkD 1 WE=true:=by decide +kernel
theorem mail_nil {W:Wl} (h:W.net=[]) (fn n:Int):W.mail fn n=(W,3):=by
 unfold Wl.mail
 rw [h]
 split
 ·rfl
 ·rfl
theorem one_out {W:Wl} {a:Int} (ha:¬ (1≤a∧a≤W.n)) (fn o l:Int) (d:ByteArray):W.one fn a o l d=(W,8):=by
 unfold Wl.one
 have:W.is a=false:=by unfold Wl.is;rw [Bool.and_eq_false_iff,decide_eq_false_iff_not,decide_eq_false_iff_not];omega
 rw [this];rfl
structure ErrOk (fn a n z:Int) (W:Wl):Prop where
 r:fn=1→z=0∧W.real=1
 t:fn=2→z=if a=2 then 5 else if 1≤a∧a≤3 then 0 else 8
 m:fn=3∨fn=4∨fn=5→z=3
 c:fn=6→z=if a=2 then 5 else if 1≤a∧a≤3 then 0 else 8
 c1:fn=6→a=1→(Z0i W 1).s=none
 c3:fn=6→a=3→(Z0i W 3).s=none
 s:fn=7→z=if a=2 then 0 else if 1≤a∧a≤3 then 9 else 8
 b:fn=8→z=if a=2 then 5 else if 1≤a∧a≤3 then 6 else 8
 w:fn=9→z=if 0≤n∧n≤200 then 0 else 3
 o:¬ (1≤fn∧fn≤9)→z=1
theorem err_ok (fn a n:Int) (h9:fn≠9):ErrOk fn a n (WE.step fn a n 0 0 ByteArray.empty).2 (WE.step fn a n 0 0 ByteArray.empty).1∧(WE.step fn a n 0 0 ByteArray.empty).1.n=3:=by
 have hin:∀ a:Int,1≤a∧a≤3→a=1∨a=2∨a=3:=fun a h=>by omega
 by_cases h1:fn=1
 ·subst h1
  refine⟨⟨fun _=>⟨rfl,rfl⟩,?_,?_,?_,?_,?_,?_,?_,?_,?_⟩,rfl⟩<;>intro h<;>omega
 by_cases hm:fn=3∨fn=4∨fn=5
 ·have e:WE.step fn a n 0 0 ByteArray.empty=(WE,3):=by
   rw [← mail_nil WE_net fn n]
   rcases hm with rfl | rfl | rfl<;>rfl
  rw [e]
  refine⟨⟨?_,?_,fun _=>rfl,?_,?_,?_,?_,?_,?_,?_⟩,rfl⟩<;>intro h<;>omega
 by_cases ho:fn=2∨fn=6∨fn=7∨fn=8
 ·have e:WE.step fn a n 0 0 ByteArray.empty=WE.one fn a 0 0 ByteArray.empty:=by rcases ho with rfl | rfl | rfl | rfl<;>rfl
  rw [e]
  by_cases ha:1≤a∧a≤3
  ·rcases hin a ha with rfl | rfl | rfl<;>rcases ho with rfl | rfl | rfl | rfl
   all_goals (refine⟨⟨?_,?_,?_,?_,?_,?_,?_,?_,?_,?_⟩,by decide +kernel⟩)
   all_goals first
    | (intro h;omega)
    | (intro _;decide +kernel)
    | (intro _ h;omega)
    | (intro _ _;decide +kernel)
  ·rw [one_out (by rw [WE_n];exact ha)]
   refine⟨⟨fun h=>?_,fun _=>?_,fun h=>?_,fun _=>?_,fun _ h=>?_,fun _ h=>?_,fun _=>?_,fun _=>?_,fun h=>?_,fun h=>?_⟩,rfl⟩
   ·omega
   ·rw [if_neg (by omega),if_neg ha]
   ·omega
   ·rw [if_neg (by omega),if_neg ha]
   ·omega
   ·omega
   ·rw [if_neg (by omega),if_neg ha]
   ·rw [if_neg (by omega),if_neg ha]
   ·omega
   ·omega
 have e:WE.step fn a n 0 0 ByteArray.empty=(WE,1):=by
  unfold Wl.step
  rw [if_neg (by simp;omega),if_neg (by simp;omega),if_neg (by simp;omega),if_neg (by simp;omega)]
 rw [e]
 refine⟨⟨?_,?_,?_,?_,?_,?_,?_,?_,?_,fun _=>rfl⟩,rfl⟩<;>intro h<;>omega
section
variable {own own':Nat→Nat} {w0 w w':World} {A A':WlAt}
theorem err_step (h:WlO own w0 w A WE) (hf:WOk 3 WE) (fn a n:Int) :
  Calls Tryz.prog 43 #[Z09 A.wb,Z8n fn a n 0 0 ByteArray.empty] w fun r w'=>∃ z own' A' W',r=.returned (.int .i64 z)∧ErrOk fn a n z W'∧WlO own' w0 w' A' W'∧KeepW own own' w w'∧A'.wb=A.wb∧W'.n=3:=by
 by_cases h9:fn=9
 ·subst h9
  have ok:∀ z W',z=(if 0≤n∧n≤200 then 0 else 3)→ErrOk 9 a n z W':=fun z W' hz=>by
   refine⟨?_,?_,?_,?_,?_,?_,?_,?_,fun _=>hz,?_⟩<;>intro h<;>omega
  by_cases hn:0≤n∧n≤200
  ·obtain⟨k,rfl⟩:∃ k:Nat,n=k:=⟨n.toNat,by omega⟩
   have hmon:=Z4a WE k (200-k)
   rw [show k+(200-k)=200 by omega] at hmon
   have hc:=WE_cost
   refine (Z3s h hf k (by omega) (by omega) a 0 0 ByteArray.empty).mono ?_
   rintro r w' ⟨own',A',rfl,a1,a2,a3,a4,a5⟩
   exact⟨0,own',A',_,rfl,ok 0 _ (by rw [if_pos hn]),a1,a3,a4,Z6u _ _⟩
  ·refine (Z7q h 9 rfl a n 0 0 ByteArray.empty (fun z w'=>z=3∧Below w.heap.size w w') fun w1 h1 hb=>?_).mono ?_
   ·refine (Zgu n (by omega) w1 _).mono ?_
    rintro r w' ⟨rfl,rfl⟩
    exact⟨3,rfl,rfl,hb⟩
   ·rintro r w' ⟨z,rfl,rfl,hb⟩
    exact⟨3,own,A,WE,rfl,ok 3 _ (by rw [if_neg hn]),h.grow hb, .below hb,rfl,rfl⟩
 ·refine (Z6b h hf ((Zk6 WE_d).up (by omega)) (by omega) fn a n 0 0 ByteArray.empty h9).mono ?_
  rintro r w' ⟨z,rfl,rfl,own',A',h2,f2,d2,k2,e1,e2⟩
  obtain⟨o1,o2⟩:=err_ok fn a n h9
  exact⟨_,own',A',_,rfl,o1,h2,k2,e1,o2⟩
end
end
section
namespace lawWorldErrors
open Go.ChangeShapes Go.WideShapes Go.ChangeAt Go.RowKit
theorem walk (mm fn a n:Int) (w:World) (hmm:w.cell? ⟨0,0,none⟩=some (.int .i64 mm)) (hfn:I64 fn) (ha:I64 a) (hn:I64 n):Calls Tryz.prog 9 #[.int .i64 fn, .int .i64 a, .int .i64 n] w fun r w'=>r=.returned (.bool true)∧Below w.heap.size w w':=by
 have hbeg:=hd_ (b27_any w ⟨mm,hmm⟩)
 replace hmm:=hd_ hmm
 clear hfn ha hn
 go_enter Tryz.func9,Tryz.ntmps9
 go_wp2_with fail
 refine hbeg.out.mono ?_
 rintro r w1 ⟨rfl,hb1⟩
 have hNew:=hd_ (Zf2 w1 ⟨mm,by rw [hb1.cell (Z0f hmm.out)];exact hmm.out⟩ 3 (by omega) (by omega))
 replace hb1:=hd_ hb1
 clear hbeg
 go_wp2_with fail
 refine hNew.out.mono ?_
 rintro r w2 ⟨own2,B2,rfl,h2⟩
 have hf2:WOk 0 (Lw.make 3).W:=by
  show WOk 0 (Wl.make 3)
  rw [← Z5i 3 3 (by decide)]
  exact WOk.made (by omega) (by omega) 3
 have hd2:WOd 1 (Lw.make 3).W:=by
  show WOd 1 (Wl.make 3)
  rw [← Z5i 3 3 (by decide)]
  exact WOd.made 3
 have c2:=h2.c0
 have l2:=h2.lt
 have hS2:=hd_ (Z6b h2.wl (c:=1) (hf2.up (by omega)) hd2 (by omega) 6 2 0 0 0 ByteArray.empty (by decide))
 replace h2:=hd_ h2
 clear hNew hf2 hd2
 go_wp2_with fail
 refine hS2.out.mono ?_
 rintro r w3 ⟨z3,rfl,hz3,own3,A3,hw3,hf3,hd3,k3,e3,e3'⟩
 replace hz3:z3=0:=hz3.trans rfl
 subst hz3
 replace hw3:WlO own3 w1 w3 A3 WE:=hw3
 replace hf3:WOk 4 WE:=hf3
 have hf3':WOk 3 WE:=⟨fun i s h1 hs=>(WOk.crash (W:=Wl.make 3) (i:=2) (c:=3) (by rw [← Z5i 3 3 (by decide)];exact (WOk.made (by omega) (by omega) 3).up (by omega)) (by omega) (by decide)).pr i s h1 hs,hf3.net,hf3.n400,hf3.r0,by rw [WE_real];decide⟩
 have h3:=h2.out.turnW hw3 k3 e3 rfl
 have c3:w3.cell? ⟨B2.lb,0,none⟩=some (Z09 A3.wb):=h3.c0
 have l3:B2.lb<w3.heap.size:=h3.lt
 have hS3:=hd_ (err_step hw3 hf3' fn a n)
 replace h3:=hd_ h3
 replace e3:=hd_ e3
 replace e3':=hd_ e3'
 clear c2 l2 hS2 hf3 hf3' hd3 k3 hw3
 go_wp2_with fail
 refine hS3.out.mono ?_
 rintro r w4 ⟨z,own4,A4,W4,rfl,hok,hw4,k4,e4,n4⟩
 have h4:=h3.out.turnW hw4 k4 e4 (n4.trans WE_n.symm)
 have c4:w4.cell? ⟨B2.lb,0,none⟩=some (Z09 A4.wb):=h4.c0
 have l4:B2.lb<w4.heap.size:=h4.lt
 have hB4:=hd_ (hb1.out.trans (h4.wl.bel.mono hb1.out.size))
 replace h4:=hd_ h4
 replace hw4:=hd_ hw4
 replace hok:=hd_ hok
 replace n4:=hd_ n4
 replace e4:=hd_ e4
 clear c3 l3 hS3 k4 h3
 rcases (by omega:a=1∨a=2∨a=3∨a<1∨3<a) with rfl | rfl | rfl | ha | ha
 ·go_upto_region 10 with (fail)
  rcases (by omega:fn=1∨fn=2∨fn=3∨fn=4∨fn=5∨fn=6∨fn=7∨fn=8∨fn=9∨¬ (1≤fn∧fn≤9)) with rfl | rfl | rfl | rfl | rfl | rfl | rfl | rfl | rfl | hfn
  ·obtain⟨hz,hr⟩:=hok.out.r rfl
   subst hz
   have hR:=Z2n hw4.out
   rw [hr] at hR
   replace hr:=hd_ hr
   replace hR:=hd_ hR
   go_wp2_with fail
   refine hR.out.mono ?_
   rintro r wx ⟨rfl,rfl⟩
   go_wp2
   go_ret
   exact⟨rfl,hB4.out⟩
  ·have hz:z=0:=(hok.out.t rfl).trans (by decide)
   subst hz
   go_wp2
   go_ret
   exact⟨rfl,hB4.out⟩
  ·have hz:z=3:=hok.out.m (by omega)
   subst hz
   go_wp2
   go_ret
   exact⟨rfl,hB4.out⟩
  ·have hz:z=3:=hok.out.m (by omega)
   subst hz
   go_wp2
   go_ret
   exact⟨rfl,hB4.out⟩
  ·have hz:z=3:=hok.out.m (by omega)
   subst hz
   go_wp2
   go_ret
   exact⟨rfl,hB4.out⟩
  ·have hz:z=0:=(hok.out.c rfl).trans (by decide)
   subst hz
   have hx:=hok.out.c1 rfl rfl
   have hN:Calls Tryz.prog 45 #[Z09 A4.wb, .int .i64 1] w4 fun r w'=>r=.returned (.pointer none)∧Below w4.heap.size w4 w':=by
    have:=Z1n hw4.out (i:=1) (by omega) (by rw [n4.out];decide)
    unfold xV at this
    rw [hx] at this
    exact this
   replace hx:=hd_ hx
   replace hN:=hd_ hN
   go_wp2_with fail
   refine hN.out.mono ?_
   rintro r w5 ⟨rfl,hb5⟩
   have hB5:=hd_ (hB4.out.trans (hb5.mono hB4.out.size))
   clear hN hb5
   go_wp2
   go_ret
   exact⟨rfl,hB5.out⟩
  ·have hz:z=9:=(hok.out.s rfl).trans (by decide)
   subst hz
   go_wp2
   go_ret
   exact⟨rfl,hB4.out⟩
  ·have hz:z=6:=(hok.out.b rfl).trans (by decide)
   subst hz
   go_wp2
   go_ret
   exact⟨rfl,hB4.out⟩
  ·rcases (by omega:n<0∨200<n∨(0≤n∧n≤200)) with hn | hn | hn
   ·have hz:z=3:=(hok.out.w rfl).trans (by rw [if_neg (by omega)])
    subst hz
    have n1:decide (0≤n)=false:=decide_eq_false (by omega)
    go_wp2
    go_ret
    exact⟨rfl,hB4.out⟩
   ·have hz:z=3:=(hok.out.w rfl).trans (by rw [if_neg (by omega)])
    subst hz
    have n1:decide (0≤n)=true:=decide_eq_true (by omega)
    have n2:decide (n≤200)=false:=decide_eq_false (by omega)
    go_wp2
    go_ret
    exact⟨rfl,hB4.out⟩
   ·have hz:z=0:=(hok.out.w rfl).trans (by rw [if_pos (by omega)])
    subst hz
    have n1:decide (0≤n)=true:=decide_eq_true (by omega)
    have n2:decide (n≤200)=true:=decide_eq_true (by omega)
    go_wp2
    go_ret
    exact⟨rfl,hB4.out⟩
  ·have hz:z=1:=hok.out.o hfn
   subst hz
   have f1:(fn==1)=false:=by simp;omega
   have f2:(fn==2)=false:=by simp;omega
   have f3:(fn==3)=false:=by simp;omega
   have f4:(fn==4)=false:=by simp;omega
   have f5:(fn==5)=false:=by simp;omega
   have f6:(fn==6)=false:=by simp;omega
   have f7:(fn==7)=false:=by simp;omega
   have f8:(fn==8)=false:=by simp;omega
   have f9:(fn==9)=false:=by simp;omega
   go_wp2
   go_ret
   exact⟨rfl,hB4.out⟩
 ·go_upto_region 10 with (fail)
  rcases (by omega:fn=1∨fn=2∨fn=3∨fn=4∨fn=5∨fn=6∨fn=7∨fn=8∨fn=9∨¬ (1≤fn∧fn≤9)) with rfl | rfl | rfl | rfl | rfl | rfl | rfl | rfl | rfl | hfn
  ·obtain⟨hz,hr⟩:=hok.out.r rfl
   subst hz
   have hR:=Z2n hw4.out
   rw [hr] at hR
   replace hr:=hd_ hr
   replace hR:=hd_ hR
   go_wp2_with fail
   refine hR.out.mono ?_
   rintro r wx ⟨rfl,rfl⟩
   go_wp2
   go_ret
   exact⟨rfl,hB4.out⟩
  ·have hz:z=5:=(hok.out.t rfl).trans (by decide)
   subst hz
   go_wp2
   go_ret
   exact⟨rfl,hB4.out⟩
  ·have hz:z=3:=hok.out.m (by omega)
   subst hz
   go_wp2
   go_ret
   exact⟨rfl,hB4.out⟩
  ·have hz:z=3:=hok.out.m (by omega)
   subst hz
   go_wp2
   go_ret
   exact⟨rfl,hB4.out⟩
  ·have hz:z=3:=hok.out.m (by omega)
   subst hz
   go_wp2
   go_ret
   exact⟨rfl,hB4.out⟩
  ·have hz:z=5:=(hok.out.c rfl).trans (by decide)
   subst hz
   go_wp2
   go_ret
   exact⟨rfl,hB4.out⟩
  ·have hz:z=0:=(hok.out.s rfl).trans (by decide)
   subst hz
   go_wp2
   go_ret
   exact⟨rfl,hB4.out⟩
  ·have hz:z=5:=(hok.out.b rfl).trans (by decide)
   subst hz
   go_wp2
   go_ret
   exact⟨rfl,hB4.out⟩
  ·rcases (by omega:n<0∨200<n∨(0≤n∧n≤200)) with hn | hn | hn
   ·have hz:z=3:=(hok.out.w rfl).trans (by rw [if_neg (by omega)])
    subst hz
    have n1:decide (0≤n)=false:=decide_eq_false (by omega)
    go_wp2
    go_ret
    exact⟨rfl,hB4.out⟩
   ·have hz:z=3:=(hok.out.w rfl).trans (by rw [if_neg (by omega)])
    subst hz
    have n1:decide (0≤n)=true:=decide_eq_true (by omega)
    have n2:decide (n≤200)=false:=decide_eq_false (by omega)
    go_wp2
    go_ret
    exact⟨rfl,hB4.out⟩
   ·have hz:z=0:=(hok.out.w rfl).trans (by rw [if_pos (by omega)])
    subst hz
    have n1:decide (0≤n)=true:=decide_eq_true (by omega)
    have n2:decide (n≤200)=true:=decide_eq_true (by omega)
    go_wp2
    go_ret
    exact⟨rfl,hB4.out⟩
  ·have hz:z=1:=hok.out.o hfn
   subst hz
   have f1:(fn==1)=false:=by simp;omega
   have f2:(fn==2)=false:=by simp;omega
   have f3:(fn==3)=false:=by simp;omega
   have f4:(fn==4)=false:=by simp;omega
   have f5:(fn==5)=false:=by simp;omega
   have f6:(fn==6)=false:=by simp;omega
   have f7:(fn==7)=false:=by simp;omega
   have f8:(fn==8)=false:=by simp;omega
   have f9:(fn==9)=false:=by simp;omega
   go_wp2
   go_ret
   exact⟨rfl,hB4.out⟩
 ·go_upto_region 10 with (fail)
  rcases (by omega:fn=1∨fn=2∨fn=3∨fn=4∨fn=5∨fn=6∨fn=7∨fn=8∨fn=9∨¬ (1≤fn∧fn≤9)) with rfl | rfl | rfl | rfl | rfl | rfl | rfl | rfl | rfl | hfn
  ·obtain⟨hz,hr⟩:=hok.out.r rfl
   subst hz
   have hR:=Z2n hw4.out
   rw [hr] at hR
   replace hr:=hd_ hr
   replace hR:=hd_ hR
   go_wp2_with fail
   refine hR.out.mono ?_
   rintro r wx ⟨rfl,rfl⟩
   go_wp2
   go_ret
   exact⟨rfl,hB4.out⟩
  ·have hz:z=0:=(hok.out.t rfl).trans (by decide)
   subst hz
   go_wp2
   go_ret
   exact⟨rfl,hB4.out⟩
  ·have hz:z=3:=hok.out.m (by omega)
   subst hz
   go_wp2
   go_ret
   exact⟨rfl,hB4.out⟩
  ·have hz:z=3:=hok.out.m (by omega)
   subst hz
   go_wp2
   go_ret
   exact⟨rfl,hB4.out⟩
  ·have hz:z=3:=hok.out.m (by omega)
   subst hz
   go_wp2
   go_ret
   exact⟨rfl,hB4.out⟩
  ·have hz:z=0:=(hok.out.c rfl).trans (by decide)
   subst hz
   have hx:=hok.out.c3 rfl rfl
   have hN:Calls Tryz.prog 45 #[Z09 A4.wb, .int .i64 3] w4 fun r w'=>r=.returned (.pointer none)∧Below w4.heap.size w4 w':=by
    have:=Z1n hw4.out (i:=3) (by omega) (by rw [n4.out];decide)
    unfold xV at this
    rw [hx] at this
    exact this
   replace hx:=hd_ hx
   replace hN:=hd_ hN
   go_wp2_with fail
   refine hN.out.mono ?_
   rintro r w5 ⟨rfl,hb5⟩
   have hB5:=hd_ (hB4.out.trans (hb5.mono hB4.out.size))
   clear hN hb5
   go_wp2
   go_ret
   exact⟨rfl,hB5.out⟩
  ·have hz:z=9:=(hok.out.s rfl).trans (by decide)
   subst hz
   go_wp2
   go_ret
   exact⟨rfl,hB4.out⟩
  ·have hz:z=6:=(hok.out.b rfl).trans (by decide)
   subst hz
   go_wp2
   go_ret
   exact⟨rfl,hB4.out⟩
  ·rcases (by omega:n<0∨200<n∨(0≤n∧n≤200)) with hn | hn | hn
   ·have hz:z=3:=(hok.out.w rfl).trans (by rw [if_neg (by omega)])
    subst hz
    have n1:decide (0≤n)=false:=decide_eq_false (by omega)
    go_wp2
    go_ret
    exact⟨rfl,hB4.out⟩
   ·have hz:z=3:=(hok.out.w rfl).trans (by rw [if_neg (by omega)])
    subst hz
    have n1:decide (0≤n)=true:=decide_eq_true (by omega)
    have n2:decide (n≤200)=false:=decide_eq_false (by omega)
    go_wp2
    go_ret
    exact⟨rfl,hB4.out⟩
   ·have hz:z=0:=(hok.out.w rfl).trans (by rw [if_pos (by omega)])
    subst hz
    have n1:decide (0≤n)=true:=decide_eq_true (by omega)
    have n2:decide (n≤200)=true:=decide_eq_true (by omega)
    go_wp2
    go_ret
    exact⟨rfl,hB4.out⟩
  ·have hz:z=1:=hok.out.o hfn
   subst hz
   have f1:(fn==1)=false:=by simp;omega
   have f2:(fn==2)=false:=by simp;omega
   have f3:(fn==3)=false:=by simp;omega
   have f4:(fn==4)=false:=by simp;omega
   have f5:(fn==5)=false:=by simp;omega
   have f6:(fn==6)=false:=by simp;omega
   have f7:(fn==7)=false:=by simp;omega
   have f8:(fn==8)=false:=by simp;omega
   have f9:(fn==9)=false:=by simp;omega
   go_wp2
   go_ret
   exact⟨rfl,hB4.out⟩
 ·have a1:decide (1≤a)=false:=decide_eq_false (by omega)
  go_upto_region 10 with (fail)
  clear a1
  rcases (by omega:fn=1∨fn=2∨fn=3∨fn=4∨fn=5∨fn=6∨fn=7∨fn=8∨fn=9∨¬ (1≤fn∧fn≤9)) with rfl | rfl | rfl | rfl | rfl | rfl | rfl | rfl | rfl | hfn
  ·obtain⟨hz,hr⟩:=hok.out.r rfl
   subst hz
   have hR:=Z2n hw4.out
   rw [hr] at hR
   replace hr:=hd_ hr
   replace hR:=hd_ hR
   go_wp2_with fail
   refine hR.out.mono ?_
   rintro r wx ⟨rfl,rfl⟩
   go_wp2
   go_ret
   exact⟨rfl,hB4.out⟩
  ·have hz:z=8:=(hok.out.t rfl).trans (by rw [if_neg (by omega),if_neg (by omega)])
   subst hz
   go_wp2
   go_ret
   exact⟨rfl,hB4.out⟩
  ·have hz:z=3:=hok.out.m (by omega)
   subst hz
   go_wp2
   go_ret
   exact⟨rfl,hB4.out⟩
  ·have hz:z=3:=hok.out.m (by omega)
   subst hz
   go_wp2
   go_ret
   exact⟨rfl,hB4.out⟩
  ·have hz:z=3:=hok.out.m (by omega)
   subst hz
   go_wp2
   go_ret
   exact⟨rfl,hB4.out⟩
  ·have hz:z=8:=(hok.out.c rfl).trans (by rw [if_neg (by omega),if_neg (by omega)])
   subst hz
   go_wp2
   go_ret
   exact⟨rfl,hB4.out⟩
  ·have hz:z=8:=(hok.out.s rfl).trans (by rw [if_neg (by omega),if_neg (by omega)])
   subst hz
   go_wp2
   go_ret
   exact⟨rfl,hB4.out⟩
  ·have hz:z=8:=(hok.out.b rfl).trans (by rw [if_neg (by omega),if_neg (by omega)])
   subst hz
   go_wp2
   go_ret
   exact⟨rfl,hB4.out⟩
  ·rcases (by omega:n<0∨200<n∨(0≤n∧n≤200)) with hn | hn | hn
   ·have hz:z=3:=(hok.out.w rfl).trans (by rw [if_neg (by omega)])
    subst hz
    have n1:decide (0≤n)=false:=decide_eq_false (by omega)
    go_wp2
    go_ret
    exact⟨rfl,hB4.out⟩
   ·have hz:z=3:=(hok.out.w rfl).trans (by rw [if_neg (by omega)])
    subst hz
    have n1:decide (0≤n)=true:=decide_eq_true (by omega)
    have n2:decide (n≤200)=false:=decide_eq_false (by omega)
    go_wp2
    go_ret
    exact⟨rfl,hB4.out⟩
   ·have hz:z=0:=(hok.out.w rfl).trans (by rw [if_pos (by omega)])
    subst hz
    have n1:decide (0≤n)=true:=decide_eq_true (by omega)
    have n2:decide (n≤200)=true:=decide_eq_true (by omega)
    go_wp2
    go_ret
    exact⟨rfl,hB4.out⟩
  ·have hz:z=1:=hok.out.o hfn
   subst hz
   have f1:(fn==1)=false:=by simp;omega
   have f2:(fn==2)=false:=by simp;omega
   have f3:(fn==3)=false:=by simp;omega
   have f4:(fn==4)=false:=by simp;omega
   have f5:(fn==5)=false:=by simp;omega
   have f6:(fn==6)=false:=by simp;omega
   have f7:(fn==7)=false:=by simp;omega
   have f8:(fn==8)=false:=by simp;omega
   have f9:(fn==9)=false:=by simp;omega
   go_wp2
   go_ret
   exact⟨rfl,hB4.out⟩
 ·have a1:decide (1≤a)=true:=decide_eq_true (by omega)
  have a2:decide (a≤3)=false:=decide_eq_false (by omega)
  go_upto_region 10 with (fail)
  clear a1 a2
  rcases (by omega:fn=1∨fn=2∨fn=3∨fn=4∨fn=5∨fn=6∨fn=7∨fn=8∨fn=9∨¬ (1≤fn∧fn≤9)) with rfl | rfl | rfl | rfl | rfl | rfl | rfl | rfl | rfl | hfn
  ·obtain⟨hz,hr⟩:=hok.out.r rfl
   subst hz
   have hR:=Z2n hw4.out
   rw [hr] at hR
   replace hr:=hd_ hr
   replace hR:=hd_ hR
   go_wp2_with fail
   refine hR.out.mono ?_
   rintro r wx ⟨rfl,rfl⟩
   go_wp2
   go_ret
   exact⟨rfl,hB4.out⟩
  ·have hz:z=8:=(hok.out.t rfl).trans (by rw [if_neg (by omega),if_neg (by omega)])
   subst hz
   go_wp2
   go_ret
   exact⟨rfl,hB4.out⟩
  ·have hz:z=3:=hok.out.m (by omega)
   subst hz
   go_wp2
   go_ret
   exact⟨rfl,hB4.out⟩
  ·have hz:z=3:=hok.out.m (by omega)
   subst hz
   go_wp2
   go_ret
   exact⟨rfl,hB4.out⟩
  ·have hz:z=3:=hok.out.m (by omega)
   subst hz
   go_wp2
   go_ret
   exact⟨rfl,hB4.out⟩
  ·have hz:z=8:=(hok.out.c rfl).trans (by rw [if_neg (by omega),if_neg (by omega)])
   subst hz
   go_wp2
   go_ret
   exact⟨rfl,hB4.out⟩
  ·have hz:z=8:=(hok.out.s rfl).trans (by rw [if_neg (by omega),if_neg (by omega)])
   subst hz
   go_wp2
   go_ret
   exact⟨rfl,hB4.out⟩
  ·have hz:z=8:=(hok.out.b rfl).trans (by rw [if_neg (by omega),if_neg (by omega)])
   subst hz
   go_wp2
   go_ret
   exact⟨rfl,hB4.out⟩
  ·rcases (by omega:n<0∨200<n∨(0≤n∧n≤200)) with hn | hn | hn
   ·have hz:z=3:=(hok.out.w rfl).trans (by rw [if_neg (by omega)])
    subst hz
    have n1:decide (0≤n)=false:=decide_eq_false (by omega)
    go_wp2
    go_ret
    exact⟨rfl,hB4.out⟩
   ·have hz:z=3:=(hok.out.w rfl).trans (by rw [if_neg (by omega)])
    subst hz
    have n1:decide (0≤n)=true:=decide_eq_true (by omega)
    have n2:decide (n≤200)=false:=decide_eq_false (by omega)
    go_wp2
    go_ret
    exact⟨rfl,hB4.out⟩
   ·have hz:z=0:=(hok.out.w rfl).trans (by rw [if_pos (by omega)])
    subst hz
    have n1:decide (0≤n)=true:=decide_eq_true (by omega)
    have n2:decide (n≤200)=true:=decide_eq_true (by omega)
    go_wp2
    go_ret
    exact⟨rfl,hB4.out⟩
  ·have hz:z=1:=hok.out.o hfn
   subst hz
   have f1:(fn==1)=false:=by simp;omega
   have f2:(fn==2)=false:=by simp;omega
   have f3:(fn==3)=false:=by simp;omega
   have f4:(fn==4)=false:=by simp;omega
   have f5:(fn==5)=false:=by simp;omega
   have f6:(fn==6)=false:=by simp;omega
   have f7:(fn==7)=false:=by simp;omega
   have f8:(fn==8)=false:=by simp;omega
   have f9:(fn==9)=false:=by simp;omega
   go_wp2
   go_ret
   exact⟨rfl,hB4.out⟩
end lawWorldErrors
end
end Go.Proofs.YtbonjbokofkafaaGreat
