/- Lemmas of the proof: PkZ. -/
import Derived.Test.YtbonjbokofkafaaGreatPkY
import Derived.Test.YtbonjbokofkafaaGreatPkV
import Derived.Test.YtbonjbokofkafaaGreatPkW
import Derived.Test.YtbonjbokofkafaaGreatPkU
import Derived.Test.YtbonjbokofkafaaGreatPkA
namespace Go.Proofs.YtbonjbokofkafaaGreat
set_option linter.unusedVariables false
set_option maxRecDepth 100000
set_option maxHeartbeats 64000000
section
open Go.RowKit
section
variable {own own':Nat→Nat} {w0 w w':World} {A A':WlAt} {W W':Wl} {i c:Nat} {s:Nd}
theorem Z9o (W:Wl) (i:Nat) (p:Pr) (h1:1≤i) (hl:i≤W.ps.length) (j:Nat) (hj:1≤j):Z0i { W with ps:=W.ps.set (i-1) p } j=if j=i then p else Z0i W j:=by
 unfold Z0i
 dsimp only
 by_cases e:j=i
 ·subst e
  rw [if_pos rfl,List.getD_eq_getElem?_getD,List.getElem?_set,if_pos rfl,if_pos (by omega)];rfl
 ·rw [if_neg e,List.getD_eq_getElem?_getD,List.getElem?_set,if_neg (by omega),← List.getD_eq_getElem?_getD]
theorem WlO.started (h:WlO own w0 w A W) (hi:1≤i) (hn:(i:Int)≤W.n) (t:Turn (fun o=>JK (KI i) o∨o=KI i+13) own own' w w') {a':NdAt} {cb:Nat} {s':Nd} {b':Int}
  (hA':A'={ A with nd:=Z67 A.nd i a',cb:=Z67 A.cb i cb }) (hW':W'={ W with ps:=W.ps.set (i-1) ⟨some s',0,0,b',s'.dv⟩ })
  (hb:w'.heap[A.wb]?=some (.cells (wlC A' W') 149 (0,0)))
  (hN:NdO own' (KI i) w' { a' with cs:=wlC A' W' } s' []) (hdk:a'.dk=A.wb) (hod:a'.od=3+4*i) (hT:a'.T=149) (hov:a'.ov=.slice none 0 0) (co:own' cb=KI i+13) (ct:ctO w' cb (Z09 a'.b) 0 0) :
  WlO own' w0 w' A' W'∧KeepW own own' w w':=by
 have n3:=h.n3
 have n7:=h.n7
 have c0:=h.len
 have hKI:32≤KI i∧KI i≤128:=by unfold KI;omega
 have h0:∀ j,1≤j→Z0i W' j=if j=i then ⟨some s',0,0,b',s'.dv⟩ else Z0i W j:=fun j hj=>by rw [hW'];exact Z9o W i _ hi (by omega) j hj
 have d0:∀ o,o≤3→o≠1→¬ (JK (KI i) o∨o=KI i+13):=fun o ho h1=>by unfold JK;omega
 have ho:own' A.wb=1:=(t.old _ (Z04 h.blk)).trans h.ob
 have b0:A'.wb=A.wb:=by rw [hA']
 have f0:A'.nb=A.nb:=by rw [hA']
 have g0:A'.nv=A.nv:=by rw [hA']
 have e0:W'.net=W.net:=by rw [hW']
 refine⟨⟨fun c hc=>(t.old c (Nat.lt_of_lt_of_le hc h.bel.size)).trans (h.low c hc),h.bel' t (d0 0 (by omega) (by omega)),h.m0,t.new,by rw [b0];exact ho,by rw [b0];exact hb,by rw [hW'];exact n3,by rw [hW'];exact n7,by rw [hW'];show (((W.ps.set _ _).length:Nat):Int)=W.n;rw [List.length_set];exact c0,?_,?_⟩, .of t fun o ho=>by unfold JK at ho;unfold JW;omega⟩
 ·intro j s2 hj a0
  have e:=h0 j hj
  by_cases hji:j=i
  ·subst hji
   rw [if_pos rfl] at e
   rw [e] at a0
   have a0:some s'=some s2:=a0
   injection a0 with a0
   subst a0
   have e1:A'.nd j=a':=by rw [hA'];exact Z13 ..
   have e2:A'.cb j=cb:=by rw [hA'];exact Z13 ..
   exact⟨by rw [e1];exact hN,by rw [e1,b0];exact hdk,by rw [e1];exact hod,by rw [e1];exact hT,by rw [e1];exact hov,by rw [e2];exact co,by rw [e1,e2,e];exact ct,by rw [e]⟩
  ·rw [if_neg hji] at e
   rw [e] at a0
   have h7:=PrO.lt7 n7 c0 hj a0
   refine (h.pr j s2 hj a0).turn hj h7 t (fun o ho=>?_) b0 (by rw [hA'];exact Z21 hji) (by rw [hA'];exact Z21 hji) e ho (by rw [b0];exact hb)
   unfold JK at ho;unfold KI at *;omega
 ·rw [f0,g0,e0]
  exact h.nt.turn t (d0 0 (by omega) (by omega)) (d0 2 (by omega) (by omega)) (d0 3 (by omega) (by omega))
theorem Zbq (h:WlO own w0 w A W) (hi:1≤i) (hn:(i:Int)≤W.n) (hs:(Z0i W i).s=some s) :
  Calls Tryz.prog 104 #[Z09 A.wb, .int .i64 i] w fun r w'=>r=.returned (.int .i64 9)∧w=w':=by
 have n7:=h.n7
 have i7:i≤7:=by omega
 have cx:=h.cx hi i7
 have a0:xV A W i=Z09 (A.nd i).b:=by unfold xV;rw [hs];rfl
 rw [a0] at cx
 have hl:=Z04 h.blk
 clear h
 go_enter Tryz.func104,Tryz.ntmps104
 go_wp2
 go_ret
 exact⟨rfl,rfl⟩
theorem Zbr (h:WlO own w0 w A W) (hi:1≤i) (hn:(i:Int)≤W.n) (hs:(Z0i W i).s=none) (hb0:0≤(Z0i W i).boot) (hb1:(Z0i W i).boot<1000000) (hd0:0≤(Z0i W i).dv) (hd1:(Z0i W i).dv≤1099511627776) :
  Calls Tryz.prog 104 #[Z09 A.wb, .int .i64 i] w fun r w'=>∃ own' A',r=.returned (.int .i64 0)∧WlO own' w0 w' A' (W.start i).1∧KeepW own own' w w'∧A'.wb=A.wb∧A'.nb=A.nb:=by
 have n3:=h.n3
 have n7:=h.n7
 have d0:=h.len
 have i7:i≤7:=by omega
 have r0:xV A W i=.pointer none:=by unfold xV;rw [hs];rfl
 have x0:cV A W i=.pointer none:=by unfold cV;rw [hs];rfl
 have cx:=h.cx hi i7
 rw [r0] at cx
 have hl:=Z04 h.blk
 have m0:(W.start i).1={ W with ps:=W.ps.set (i-1) ⟨some (Nd.make i W.n ((Z0i W i).boot+1) (Z0i W i).dv),0,0,(Z0i W i).boot+1,(Nd.make i W.n ((Z0i W i).boot+1) (Z0i W i).dv).dv⟩ }:=by
  unfold Wl.start
  rw [Z22 W i hi]
  dsimp only
  rw [hs,show ((i:Int)-1).toNat=i-1 by omega]
  rfl
 have hM:∀ w1,WlO own w0 w1 A W→Calls Tryz.prog 40 #[.int .i64 i, .int .i64 W.n, .pointer (some ⟨A.wb,1+i*4+2,none⟩)] w1 fun r w'=>∃ own' a,r=.returned (.tuple #[Z09 a.b, .int .i64 0])∧NdO own' (KI i) w' a (Nd.make i W.n ((Z0i W i).boot+1) (Z0i W i).dv) [] ∧
   a.dk=A.wb∧a.od=1+i*4+2∧a.cs=(wlC A W).setIfInBounds (1+i*4+2) (.int .i64 ((Z0i W i).boot+1))∧a.T=149∧a.ov=.slice none 0 0∧Turn (JK (KI i)) own own' w1 w':=fun w1 h1=>
  Zee own (KI i) A.wb (1+i*4+2) (wlC A W) 149 i W.n (Z0i W i).boot (Z0i W i).dv w1 h1.wf (by unfold KI;omega) h1.ob
   ⟨h1.blk,by rw [show 1+i*4+2=3+4*i by omega];exact wlL_b hi i7,by rw [show 1+i*4+2+1=4+4*i by omega];exact wlL_d hi i7⟩ n3 n7 (by omega) hn hb0 (by omega) hd0 hd1
 obtain⟨S,hS⟩:∃ S,S=Nd.make i W.n ((Z0i W i).boot+1) (Z0i W i).dv:=⟨_,rfl⟩
 have k0:S.dv=(Z0i W i).dv:=by rw [hS];rfl
 rw [← hS] at hM m0
 generalize (Z0i W i).boot=bt at hM m0 hb0 hb1
 generalize hdv:(Z0i W i).dv=dv at k0 hd0 hd1
 rw [m0]
 replace hM:=hd_ hM;replace m0:=hd_ m0;replace hS:=hd_ hS;replace k0:=hd_ k0;replace hdv:=hd_ hdv;replace h:=hd_ h;replace r0:=hd_ r0;replace x0:=hd_ x0;replace hs:=hd_ hs;replace d0:=hd_ d0
 go_enter Tryz.func104,Tryz.ntmps104
 go_upto_region 4 with (fail)
 refine Z05 (fun _=>False) (.q 0 (.q 1 (.q 2 (.q 3 (.q 4 (.q 5 (.q 6 (.q 7 (.cut (.l 8 (.q 9 (.q 10 (.q 11 (.q 12 (.q 13 .fin)))))))))))))) ) (by kernel_rfl) (by kernel_rfl) ?_
 intro w1 e1 hb1
 have h1:=h.out.grow hb1
 have u0:=Z01 (F:=fun _=>False) (b:=w1) (fun h=>h) h1.cn
 have c1:=hd_ (hM.out w1 h1)
 replace h1:=hd_ h1;replace e1:=hd_ e1;replace hb1:=hd_ hb1;clear cx;iterate 8 (refine Z0n rfl ?_;go_big_quiet_step (fail);refine wpQuiet_nil ?_)
 clear u0;refine Z0h Z1j ?_;refine Z0j rfl (by kernel_rfl) ?_;intro K1 hK;go_simp
 refine c1.out.mono ?_
 rintro r w2 ⟨own2,a,rfl,N2,b0,e0,s0,i0,p0,t2⟩
 refine hK _ _ (Z0l t2) ?_
 clear hK K1 c1;replace N2:=hd_ N2;replace b0:=hd_ b0;replace e0:=hd_ e0;replace s0:=hd_ s0;replace i0:=hd_ i0;replace p0:=hd_ p0;replace t2:=hd_ t2;iterate 5 (refine Z0n rfl ?_;go_big_quiet_step (fail);refine wpQuiet_nil ?_)
 refine Z0c ?_;go_wp2_with fail
 refine (Zer (some a.b) _).mono ?_
 rintro r wx ⟨rfl,rfl⟩
 obtain⟨W3,c0⟩:∃ W3,W3=w2.alloc (.cells (ctC (Z09 a.b) 0 0) 126):=⟨_,rfl⟩
 obtain⟨cb,n0⟩:∃ cb,cb=w2.heap.size:=⟨_,rfl⟩
 have l1:A.wb<w2.heap.size:=by
  have:=hl
  have h2:=hb1.out.size
  have h3:=t2.out.chg.size
  omega
 have b2:w2.heap[A.wb]?=some (.cells (wlL W.n (xV A W) (cV A W) (Z67 (fun i=>(Z0i W i).boot) i (bt+1)) (Z67 (fun i=>(Z0i W i).dv) i S.dv) A.nb W.real).toArray 149 (0,0)):=by
  have hd:=N2.out.r.dsk
  rw [b0.out,e0.out,s0.out,i0.out] at hd
  rw [hd]
  unfold wlC
  rw [show 1+i*4+2=3+4*i by omega,wlL_setb hi i7,show 3+4*i+1=4+4*i by omega,Z9l hi i7]
 have b3:W3.heap[A.wb]?=_:=c0 ▸ Z02 b2 ((Below.refl _ _).alloc (Nat.le_refl _) _)
 have a1:W3.heap[cb]?=some (.cells (ctC (Z09 a.b) 0 0) 126 (0,0)):=c0 ▸ n0 ▸ Z0a _ _
 have c31:W3.cell? ⟨A.wb,1+i*4,none⟩=some (.pointer none):=by rw [Z00 b3,show 1+i*4=1+4*i by omega,wlL_x hi i7,r0.out]
 have z0:W3.cell? ⟨A.wb,1+i*4+1,none⟩=some (.pointer none):=by rw [Z00 b3,show 1+i*4+1=2+4*i by omega,wlL_c hi i7,x0.out]
 have z31:=Z03 b3 (1+i*4)
 have l3:=Z04 b3
 obtain⟨W4,a0⟩:∃ W4,W4=W3.setCell ⟨A.wb,1+i*4,none⟩ (Z09 a.b):=⟨_,rfl⟩
 have b4:=a0 ▸ Z0d (o:=1+i*4) (u:=Z09 a.b) b3
 have c42:(W3.setCell ⟨A.wb,1+i*4,none⟩ (Z09 a.b)).cell? ⟨A.wb,1+i*4+1,none⟩=some (.pointer none):=by
  rw [← a0,Z00 b4,Array.getElem?_setIfInBounds_ne (by omega),← Z00 b3];exact z0
 have z42:(W3.setCell ⟨A.wb,1+i*4,none⟩ (Z09 a.b)).frozen? ⟨A.wb,1+i*4+1,none⟩=false:=by rw [← a0];exact Z03 b4 _
 have b1:W4.heap[cb]?=some (.cells (ctC (Z09 a.b) 0 0) 126 (0,0)):=a0 ▸ Z0u a1 (by omega)
 obtain⟨W5,f0⟩:∃ W5,W5=W4.setCell ⟨A.wb,1+i*4+1,none⟩ (Z09 cb):=⟨_,rfl⟩
 have b5:=f0 ▸ Z0d (o:=1+i*4+1) (u:=Z09 cb) b4
 have h0:W5.heap[cb]?=some (.cells (ctC (Z09 a.b) 0 0) 126 (0,0)):=f0 ▸ Z0u b1 (by omega)
 have o2:own2 A.wb=1:=by
  have h3:=N2.out.r.odk
  rw [b0.out] at h3;exact h3
 have g0:Chg (fun c=>own2 c=1) w2 W5:=f0 ▸ Z06 (a0 ▸ Z06 (c0 ▸ Z1a (Chg.refl _ _)) o2) o2
 have s5:W5.heap.size=w2.heap.size+1:=by rw [f0,World.size_setCell,a0,World.size_setCell,c0];exact World.size_alloc ..
 replace b5:=hd_ b5;replace h0:=hd_ h0;replace g0:=hd_ g0;replace s5:=hd_ s5;clear b4 b1 a1 b3 b2 z0
 rw [show Z3f (some a.b)=Z09 a.b from rfl,← c0,← n0]
 replace c0:=hd_ c0;replace n0:=hd_ n0
 have t0:=hd_ a0
 have v0:=hd_ f0
 clear a0 f0;go_wp2
 go_ret
 have i1:(W3.setCell ⟨A.wb,1+i*4,none⟩ (Z09 a.b)).setCell ⟨A.wb,1+i*4+1,none⟩ (Z09 cb)=W5:=by rw [v0.out,t0.out]
 rw [i1]
 have N2:=N2.out
 have b5:=b5.out
 have h0:=h0.out
 have g0:=g0.out
 have s5:=s5.out
 have h:=h.out
 have hS:=hS.out
 have k0:=k0.out
 have g1:=n0.out
 have y0:∀ c,w2.heap.size≤c→own2 c=0:=t2.out.new
 have o0:∀ c,c<w2.heap.size→labO own2 cb (KI i+13) c=own2 c:=fun c hc=>Z45 (by omega)
 have wf5:∀ c,W5.heap.size≤c→labO own2 cb (KI i+13) c=0:=fun c hc=>by rw [Z45 (by omega)];exact y0 c (by omega)
 have t5:Turn (fun o=>o=1) own2 (labO own2 cb (KI i+13)) w2 W5:=⟨g0,o0,wf5⟩
 have tA:Turn (fun o=>JK (KI i) o∨o=KI i+13) own (labO own2 cb (KI i+13)) w1 W5:=(t2.out.mono fun o ho=>.inl ho).trans (t5.mono fun o ho=>.inl (.inl ho))
 obtain⟨A',j0⟩:∃ A',A'={ A with nd:=Z67 A.nd i a,cb:=Z67 A.cb i cb }:=⟨_,rfl⟩
 obtain⟨W',l0⟩:∃ W':Wl,W'={ W with ps:=W.ps.set (i-1) ⟨some S,0,0,bt+1,S.dv⟩ }:=⟨_,rfl⟩
 have f1:∀ j,1≤j→Z0i W' j=if j=i then ⟨some S,0,0,bt+1,S.dv⟩ else Z0i W j:=fun j hj=>by rw [l0];exact Z9o W i _ hi (by have:=d0.out;omega) j hj
 have d1:W5.heap[A.wb]?=some (.cells (wlC A' W') 149 (0,0)):=by
  rw [b5]
  unfold wlC
  rw [show 1+i*4=1+4*i by omega,Zeu hi i7,show 1+4*i+1=2+4*i by omega,Zev hi i7]
  congr 3
  refine Z46 (by rw [l0]) (fun j h1 h7=>?_) (by rw [j0]) (by rw [l0])
  unfold xV cV
  rw [f1 j h1,j0]
  dsimp only
  by_cases hj:j=i
  ·subst hj
   rw [if_pos rfl,Z13,Z13,Z13,Z13,Z13,Z13]
   exact⟨rfl,rfl,rfl,rfl⟩
  ·rw [if_neg hj,Z21 hj,Z21 hj,Z21 hj,Z21 hj,Z21 hj,Z21 hj]
   exact⟨rfl,rfl,rfl,rfl⟩
 have h1:=h.grow hb1.out
 have j1:NdO (labO own2 cb (KI i+13)) (KI i) W5 { a with cs:=wlC A' W' } S []:=by
  refine N2.moved p0.out t5 (fun o ho=>by left;rw [ho];unfold KI;omega) (wlC A' W') (by rw [e0.out];show 1+i*4+2+1<35;omega) (by rw [b0.out,o0 _ l1];exact o2) ?_
  rw [b0.out,e0.out,i0.out,show 1+i*4+2+1=4+4*i by omega]
  have q0:=Zew (i:=i) A' W' hi i7
  rw [f1 i hi,if_pos rfl] at q0
  have q0:(wlC A' W').setIfInBounds (4+4*i) (.int .i64 S.dv)=wlC A' W':=q0
  rw [q0]
  exact d1
 obtain⟨k1,k2⟩:=h1.started hi hn tA j0 l0 d1 j1 b0.out (by rw [e0.out];omega) i0.out p0.out (by rw [g1];exact Zdh _ _ _) h0
 refine⟨_,A',rfl,by rw [← l0];exact k1,(KeepW.below hb1.out).trans k2,by rw [j0],by rw [j0]⟩
end
end
section
open Go.RowKit
def Wl.lose (W:Wl) (i:Nat) (z:Int):Wl:={ W with ps:=W.ps.modify (i-1) fun p=>{ p with lost:=z } }
theorem Z7o (W:Wl) (i:Nat) (z:Int) (h1:1≤i) (hl:i≤W.ps.length) (j:Nat) (hj:1≤j):Z0i (W.lose i z) j=if j=i then { Z0i W i with lost:=z } else Z0i W j:=by
 unfold Z0i Wl.lose
 dsimp only
 by_cases hji:j=i
 ·subst hji
  rw [List.getD_eq_getElem?_getD,List.getElem?_modify,List.getElem?_eq_getElem (by omega),List.getD_eq_getElem?_getD,List.getElem?_eq_getElem (by omega)]
  simp
 ·have hn:¬ (i-1=j-1):=by omega
  rw [List.getD_eq_getElem?_getD,List.getElem?_modify,List.getD_eq_getElem?_getD]
  simp [hji,hn]
theorem lose_id (W:Wl) (i:Nat) (hl:i≤W.ps.length) (h1:1≤i):W.lose i (Z0i W i).lost=W:=by
 have e:(W.ps.modify (i-1) fun p=>{ p with lost:=(Z0i W i).lost })=W.ps:=by
  apply List.ext_getElem?
  intro k
  rw [List.getElem?_modify]
  by_cases hk:i-1=k
  ·subst hk
   have:Z0i W i=W.ps[i-1]:=by unfold Z0i;rw [List.getD_eq_getElem?_getD,List.getElem?_eq_getElem (by omega)];rfl
   rw [List.getElem?_eq_getElem (by omega),this]
   simp
  ·simp [hk]
 unfold Wl.lose
 rw [e]
section
variable {own own':Nat→Nat} {w0 w w':World} {A A':WlAt} {W W':Wl} {i c:Nat} {s:Nd}
theorem WlO.lose (h:WlO own w0 w A W) (hi:1≤i) (hs:(Z0i W i).s=some s) (t:Turn (fun o=>o=KI i+13) own own w w') {z:Int} (ct:ctO w' (A.cb i) (Z09 (A.nd i).b) (Z0i W i).seen z) :
  WlO own w0 w' A (W.lose i z)∧KeepW own own w w':=by
 have c0:=PrO.lt7 h.n7 h.len hi hs
 have d0:=Z3r hi hs
 have b0:=fun j hj=>Z7o W i z hi d0 j hj
 have hKI:32≤KI i∧KI i≤128:=by unfold KI;omega
 have hC:wlC A (W.lose i z)=wlC A W:=by
  unfold wlC
  congr 1
  refine Z46 rfl (fun j h1 h7=>?_) rfl rfl
  unfold xV cV
  rw [b0 j h1]
  by_cases hj:j=i
  ·subst hj;rw [if_pos rfl];exact⟨rfl,rfl,rfl,rfl⟩
  ·rw [if_neg hj];exact⟨rfl,rfl,rfl,rfl⟩
 have hb:=Z0g h.blk t.chg (by rw [h.ob];omega)
 refine⟨⟨fun c hc=>h.low c hc,h.bel' t (by omega),h.m0,t.new,h.ob,by rw [hC];exact hb,h.n3,h.n7,by show (((W.ps.modify _ _).length:Nat):Int)=W.n;rw [List.length_modify];exact h.len,fun j s2 hj a0=>?_,h.nt.turn t (by omega) (by omega) (by omega)⟩, .of t fun o ho=>by unfold JW;omega⟩
 have e:=b0 j hj
 by_cases hji:j=i
 ·subst hji
  rw [if_pos rfl] at e
  rw [e] at a0
  have a0:some s=some s2:=hs.symm.trans a0
  injection a0 with a0
  subst a0
  have hP:=h.pr j s hj hs
  refine⟨?_,hP.dk,hP.od,hP.T,hP.ov,hP.co,by rw [e];exact ct,by rw [e];exact hP.dv⟩
  refine hP.nd.moved hP.ov t (fun o ho=>by omega) (wlC A (W.lose j z)) (by show (A.nd j).od+1<35;rw [hP.od];omega) (by show own (A.nd j).dk=1;rw [hP.dk];exact h.ob) ?_
  show w'.heap[(A.nd j).dk]?=some (.cells ((wlC A (W.lose j z)).setIfInBounds ((A.nd j).od+1) (.int .i64 s.dv)) (A.nd j).T (0,0))
  rw [hP.dk,hP.od,hP.T,← hP.dv,show 3+4*j+1=4+4*j by omega,hC,Zew A W hj c0]
  exact hb
 ·rw [if_neg hji] at e
  rw [e] at a0
  exact (h.pr j s2 hj a0).turn hj (PrO.lt7 h.n7 h.len hj a0) t (fun o ho=>by unfold KI at *;omega) rfl rfl rfl e h.ob (by rw [hC];exact hb)
theorem wCast (h:WlO own w0 w A W) (hf:WOk c W) (hi:1≤i) (hs:(Z0i W i).s=some s) (h0:0≤(Z0i W i).lost) (h1:(Z0i W i).lost≤1000000) (o l:Int) (d:ByteArray) :
  Calls Tryz.prog 25 #[Z09 (A.cb i), .int .i64 o, .int .i64 l, .string d] w fun r w'=>∃ own' A',r=.returned (.int .i64 (s.cast o l d).2) ∧
   WlO own' w0 w' A' ((W.put i (s.cast o l d).1).lose i (if (s.cast o l d).2=0 then (Z0i W i).lost else (Z0i W i).lost+1))∧KeepW own own' w w'∧A'.wb=A.wb∧A'.nb=A.nb:=by
 have hP:=h.pr i s hi hs
 have hF:=hf.pr i s hi hs
 have l0:=Z3r hi hs
 have hN:=hd_ (Zbf (A.cb i) _ _ _ w hP.ct)
 have hC:=Zbe c hP.nd hF.ok hF.sq o l d
 have hC:Calls Tryz.prog 81 #[Z09 (A.nd i).b, .int .i64 o, .int .i64 l, .string d] w fun r w'=>r=.returned (.int .i64 (s.cast o l d).2)∧∃ own' A',WlO own' w0 w' A' (W.put i (s.cast o l d).1)∧KeepW own own' w w'∧SameA A A':=by
  refine hC.mono ?_
  rintro r w' ⟨rfl,own',q0,t'⟩
  exact⟨rfl,_,_,h.step hi hs q0 (.refl _) t' hP.ov⟩
 have e0:Z0i (W.put i (s.cast o l d).1) i={ Z0i W i with s:=some (s.cast o l d).1,dv:=(s.cast o l d).1.dv }:=by rw [Z3q W i _ hi l0 i hi,if_pos rfl]
 have c0:i≤(W.put i (s.cast o l d).1).ps.length:=by show i≤(W.ps.modify _ _).length;rw [List.length_modify];exact l0
 obtain⟨er,n0⟩:∃ er,er=(s.cast o l d).2:=⟨_,rfl⟩
 obtain⟨S,hS⟩:∃ S,S=(s.cast o l d).1:=⟨_,rfl⟩
 obtain⟨ls,g0⟩:∃ ls,ls=if er=0 then (Z0i W i).lost else (Z0i W i).lost+1:=⟨_,rfl⟩
 rw [← n0,← hS] at hC ⊢
 rw [← hS] at e0 c0
 rw [← g0]
 have hl:=Z04 hP.ct
 obtain⟨a0,k0⟩:∃ a0,a0=(Z0i W i).lost:=⟨_,rfl⟩
 rw [← k0] at h0 h1 g0
 replace h:=hd_ h;replace hC:=hd_ hC;replace hP:=hd_ hP;replace hF:=hd_ hF;replace hf:=hd_ hf;replace n0:=hd_ n0;replace hS:=hd_ hS;replace g0:=hd_ g0;replace k0:=hd_ k0;replace e0:=hd_ e0;replace hs:=hd_ hs;replace l0:=hd_ l0;replace c0:=hd_ c0
 go_enter Tryz.func25,Tryz.ntmps25
 go_wp2_with fail
 refine hN.out.mono ?_
 rintro r wx ⟨rfl,rfl⟩;go_wp2_with fail
 refine hC.out.mono ?_
 rintro r w1 ⟨rfl,own1,A1,d0,k1,s1⟩
 have i0:(Z0i (W.put i S) i).s=some S:=by rw [e0.out]
 have m0:=d0.pr i S hi i0
 have b0:=m0.ct
 rw [e0.out,s1.cb,s1.b] at b0
 have b0:ctO w1 (A.cb i) (Z09 (A.nd i).b) (Z0i W i).seen a0:=by rw [k0.out];exact b0
 have l1:=Z04 b0
 have f0:=m0.co
 rw [s1.cb] at f0
 have e8:(Z0i (W.put i S) i).seen=(Z0i W i).seen:=by rw [e0.out]
 have e9:(Z0i (W.put i S) i).lost=a0:=by rw [e0.out,k0.out]
 clear hN hC hl m0
 by_cases he:er=0
 ·have hb:(er != 0)=false:=by simp [he]
  have e1:ls=a0:=by rw [g0.out,if_pos he]
  replace he:=hd_ he;replace e1:=hd_ e1;replace d0:=hd_ d0;replace b0:=hd_ b0;replace f0:=hd_ f0;replace k1:=hd_ k1;replace s1:=hd_ s1;replace e8:=hd_ e8;replace e9:=hd_ e9;replace i0:=hd_ i0;go_wp2
  go_ret
  exact⟨own1,A1,rfl,by rw [e1.out,← e9.out,lose_id _ i c0.out hi];exact d0.out,k1.out,s1.out.wb,s1.out.nb⟩
 ·have hb:(er != 0)=true:=by simp [he]
  have e1:ls=a0+1:=by rw [g0.out,if_neg he]
  have hT:=hd_ (Zbh (A.cb i) _ _ a0 w1 b0 h0 (by omega))
  replace he:=hd_ he;replace e1:=hd_ e1;replace d0:=hd_ d0;replace b0:=hd_ b0;replace f0:=hd_ f0;replace k1:=hd_ k1;replace s1:=hd_ s1;replace e8:=hd_ e8;replace e9:=hd_ e9;replace i0:=hd_ i0;go_wp2_with fail
  refine hT.out.mono ?_
  rintro r w2 ⟨rfl,w3,j0,rfl⟩
  have h3:=d0.out.grow j0
  have o0:=Z02 b0.out j0
  have p0:ctO (w3.setCell ⟨A.cb i,3,none⟩ (.int .i64 (a0+1))) (A1.cb i) (Z09 (A1.nd i).b) (Z0i (W.put i S) i).seen (a0+1):=by
   rw [s1.out.cb,s1.out.b,e8.out]
   exact Z0d o0
  have t4:Turn (fun o=>o=KI i+13) own1 own1 w3 (w3.setCell ⟨A.cb i,3,none⟩ (.int .i64 (a0+1))):=.same (Z06 (Chg.refl _ _) f0.out) h3.wf
  obtain⟨h4,k4⟩:=h3.lose hi i0.out t4 p0
  have k5:=hd_ ((k1.out.trans (.below j0)).trans k4)
  replace h4:=hd_ h4;clear h3 o0 p0 t4 k4 hT;replace j0:=hd_ j0;go_wp2
  go_ret
  exact⟨own1,A1,rfl,by rw [e1.out];exact h4.out,k5.out,s1.out.wb,s1.out.nb⟩
end
end
section
open Go.RowKit
structure WOd (c:Nat) (W:Wl):Prop where
 b:∀ i,1≤i→0≤(Z0i W i).boot∧(Z0i W i).boot≤c
 d:∀ i,1≤i→0≤(Z0i W i).dv∧(Z0i W i).dv≤1099511627776
 l:∀ i,1≤i→0≤(Z0i W i).lost∧(Z0i W i).lost≤c
section
variable {own own':Nat→Nat} {w0 w w':World} {A A':WlAt} {W:Wl} {i c:Nat} {s:Nd}
theorem Zko {o1 o2:Nat→Nat} {v w1 w2:World} {A1 A2:WlAt} {W1 W2:Wl} (h:WlO o1 v w1 A1 W1) (h':WlO o2 v w2 A2 W2) (hs:w1.heap.size≤w2.heap.size):Chg Z1j w1 w2:=
 ⟨h'.bel.os.trans h.bel.os.symm,h'.bel.tape.trans h.bel.tape.symm,h'.bel.output.trans h.bel.output.symm,hs,fun k _ hF=>absurd trivial hF⟩
theorem Z7p (h:WlO own w0 w A W) (hd:WOd c W) (hc:c<1000000) (hi:1≤i) (hn:(i:Int)≤W.n) :
  Calls Tryz.prog 104 #[Z09 A.wb, .int .i64 i] w fun r w'=>∃ own' A',r=.returned (.int .i64 (W.start i).2)∧WlO own' w0 w' A' (W.start i).1∧KeepW own own' w w'∧A'.wb=A.wb∧A'.nb=A.nb:=by
 cases hs:(Z0i W i).s with
 | none=>
   have e:(W.start i).2=0:=by unfold Wl.start;rw [Z22 W i hi];dsimp only;rw [hs];rfl
   rw [e]
   have h1:=hd.b i hi
   have h2:=hd.d i hi
   exact Zbr h hi hn hs h1.1 (by omega) h2.1 h2.2
 | some s=>
   have e:W.start i=(W,9):=by unfold Wl.start;rw [Z22 W i hi];dsimp only;rw [hs];rfl
   rw [e]
   refine (Zbq h hi hn hs).mono ?_
   rintro r w' ⟨rfl,rfl⟩
   exact⟨own,A,rfl,h, .refl _ _,rfl,rfl⟩
theorem Zk1 (h:WlO own w0 w A W) (fn a n o l:Int) (d:ByteArray) (ha:¬ (1≤a∧a≤W.n)) :
  Calls Tryz.prog 101 #[Z09 A.wb,Z8n fn a n o l d] w fun r w'=>r=.returned (.int .i64 8)∧Below w.heap.size w w':=by
 obtain⟨W0,b0⟩:∃ W0,W0=w.alloc (.cells (Z6i fn a n o l d) 83):=⟨_,rfl⟩
 have a0:Below w.heap.size w W0:=b0 ▸ (Below.refl _ _).alloc (Nat.le_refl _) _
 obtain⟨sb,c0⟩:∃ sb,sb=w.heap.size:=⟨_,rfl⟩
 have d0:W0.heap[sb]?=some (.cells (Z6i fn a n o l d) 83 (0,0)):=b0 ▸ c0 ▸ Z0a _ _
 have h0:=h.grow a0
 have x1:W0.cell? ⟨sb,1,none⟩=some (.int .i64 a):=Z00 d0 1
 have lx:=Z04 d0
 have hI:=Z2f h0 a
 have e:(decide (1≤a)&&decide (a≤W.n))=false:=by rw [Bool.and_eq_false_iff,decide_eq_false_iff_not,decide_eq_false_iff_not];omega
 rw [e] at hI
 replace hI:=hd_ hI;replace h0:=hd_ h0;replace a0:=hd_ a0;replace d0:=hd_ d0;replace h:=hd_ h
 go_enter Tryz.func101,Tryz.ntmps101
 go_upto_region 1 with (fail)
 rw [← b0,← c0]
 replace b0:=hd_ b0;replace c0:=hd_ c0;go_wp2_with fail
 refine hI.out.mono ?_
 rintro r w1 ⟨rfl,e0⟩
 have f0:=hd_ (a0.out.trans (e0.mono a0.out.size))
 clear x1 lx e0 hI;go_wp2
 go_ret
 exact⟨rfl,f0.out⟩
theorem Zdl (h:WlO own w0 w A W) (hd:WOd c W) (hc:c<1000000) (hi:1≤i) (hn:(i:Int)≤W.n) (n o l:Int) (d:ByteArray) :
  Calls Tryz.prog 101 #[Z09 A.wb,Z8n 7 i n o l d] w fun r w'=>∃ own' A',r=.returned (.int .i64 (W.start i).2)∧WlO own' w0 w' A' (W.start i).1∧KeepW own own' w w'∧A'.wb=A.wb∧A'.nb=A.nb:=by
 have i0:=fun w2 (h2:WlO own w0 w2 A W)=>Z7p h2 hd hc hi hn
 obtain⟨R,hR⟩:∃ R,R=W.start i:=⟨_,rfl⟩
 rw [← hR] at i0 ⊢
 replace hR:=hd_ hR;replace i0:=hd_ i0
 obtain⟨W0,c0⟩:∃ W0,W0=w.alloc (.cells (Z6i 7 i n o l d) 83):=⟨_,rfl⟩
 have b0:Below w.heap.size w W0:=c0 ▸ (Below.refl _ _).alloc (Nat.le_refl _) _
 obtain⟨sb,k0⟩:∃ sb,sb=w.heap.size:=⟨_,rfl⟩
 have e0:W0.heap[sb]?=some (.cells (Z6i 7 i n o l d) 83 (0,0)):=c0 ▸ k0 ▸ Z0a _ _
 have h0:=h.grow b0
 have x1:W0.cell? ⟨sb,1,none⟩=some (.int .i64 i):=Z00 e0 1
 have lx:=Z04 e0
 have hI:=Z2f h0 i
 rw [decide_eq_true (show (1:Int)≤(i:Int) by omega),decide_eq_true hn] at hI
 have hI:Calls Tryz.prog 102 #[Z09 A.wb, .int .i64 i] W0 fun r w'=>r=.returned (.bool true)∧Below W0.heap.size W0 w':=hI
 replace hI:=hd_ hI;replace h0:=hd_ h0;replace b0:=hd_ b0;replace e0:=hd_ e0;replace h:=hd_ h
 go_enter Tryz.func101,Tryz.ntmps101
 go_upto_region 1 with (fail)
 rw [← c0,← k0]
 replace c0:=hd_ c0;replace k0:=hd_ k0;go_wp2_with fail
 refine hI.out.mono ?_
 rintro r w1 ⟨rfl,j0⟩
 have h1:=h0.out.grow j0
 have f0:=Z02 e0.out j0
 have g0:=b0.out.trans (j0.mono b0.out.size)
 have y1:w1.cell? ⟨sb,1,none⟩=some (.int .i64 i):=Z00 f0 1
 have ly:=Z04 f0
 have n0:=Z04 h1.blk
 have n7:=h1.n7
 have i7:i≤7:=by omega
 replace h1:=hd_ h1;replace f0:=hd_ f0;replace g0:=hd_ g0;clear x1 lx hI j0;go_upto_region 3 with (fail)
 refine Z05 (fun _=>False) (.q 0 (.q 1 (.q 2 (.q 3 (.q 4 (.q 5 (.q 6 .fin))))))) (by kernel_rfl) (by kernel_rfl) ?_
 intro w2 l0 d0
 have h2:=h1.out.grow d0
 have a0:=Z02 f0.out d0
 have m0:=hd_ (g0.out.trans (d0.mono g0.out.size))
 have u1:=Z01 (F:=fun _=>False) (b:=w2) (fun h=>h) (show w2.cell? ⟨sb,1,none⟩=some (.int .i64 i) from Z00 a0 1)
 have v0:w2.cell? ⟨sb,0,none⟩=some (.int .i64 7):=Z00 a0 0
 have v1:w2.cell? ⟨sb,1,none⟩=some (.int .i64 i):=Z00 a0 1
 have lv:=Z04 a0
 have lw2:=Z04 h2.blk
 have cx:=h2.cx hi i7
 replace h2:=hd_ h2;replace a0:=hd_ a0;replace d0:=hd_ d0;replace l0:=hd_ l0;clear y1 ly n0;iterate 7 (refine Z0n rfl ?_;go_big_quiet_step (fail);refine wpQuiet_nil ?_)
 clear u1;refine Z0c ?_
 have hS:=hd_ (i0.out w2 h2.out)
 clear cx;go_wp2_with fail
 refine hS.out.mono ?_
 rintro r w3 ⟨own3,A3,rfl,h3,k3,e1,e2⟩;replace h3:=hd_ h3
 have k4:=hd_ ((KeepW.below (own:=own) m0.out).trans k3)
 replace e1:=hd_ e1;replace e2:=hd_ e2;clear hS k3;go_wp2
 go_ret
 exact⟨own3,A3,rfl,h3.out,k4.out,e1.out,e2.out⟩
theorem Zgq (h:WlO own w0 w A W) (fn:Int) (hf7:(fn==7)=false) (hi:1≤i) (hn:(i:Int)≤W.n) (hs:(Z0i W i).s=none) (n o l:Int) (d:ByteArray) :
  Calls Tryz.prog 101 #[Z09 A.wb,Z8n fn i n o l d] w fun r w'=>r=.returned (.int .i64 5)∧Below w.heap.size w w':=by
 obtain⟨W0,c0⟩:∃ W0,W0=w.alloc (.cells (Z6i fn i n o l d) 83):=⟨_,rfl⟩
 have b0:Below w.heap.size w W0:=c0 ▸ (Below.refl _ _).alloc (Nat.le_refl _) _
 obtain⟨sb,j0⟩:∃ sb,sb=w.heap.size:=⟨_,rfl⟩
 have e0:W0.heap[sb]?=some (.cells (Z6i fn i n o l d) 83 (0,0)):=c0 ▸ j0 ▸ Z0a _ _
 have h0:=h.grow b0
 have x1:W0.cell? ⟨sb,1,none⟩=some (.int .i64 i):=Z00 e0 1
 have lx:=Z04 e0
 have hI:=Z2f h0 i
 rw [decide_eq_true (show (1:Int)≤(i:Int) by omega),decide_eq_true hn] at hI
 have hI:Calls Tryz.prog 102 #[Z09 A.wb, .int .i64 i] W0 fun r w'=>r=.returned (.bool true)∧Below W0.heap.size W0 w':=hI
 replace hI:=hd_ hI;replace h0:=hd_ h0;replace b0:=hd_ b0;replace e0:=hd_ e0;replace h:=hd_ h
 go_enter Tryz.func101,Tryz.ntmps101
 go_upto_region 1 with (fail)
 rw [← c0,← j0]
 replace c0:=hd_ c0;replace j0:=hd_ j0;go_wp2_with fail
 refine hI.out.mono ?_
 rintro r w1 ⟨rfl,i0⟩
 have h1:=h0.out.grow i0
 have f0:=Z02 e0.out i0
 have g0:=b0.out.trans (i0.mono b0.out.size)
 have y1:w1.cell? ⟨sb,1,none⟩=some (.int .i64 i):=Z00 f0 1
 have ly:=Z04 f0
 have n0:=Z04 h1.blk
 have n7:=h1.n7
 have i7:i≤7:=by omega
 replace h1:=hd_ h1;replace f0:=hd_ f0;replace g0:=hd_ g0;clear x1 lx hI i0;go_upto_region 3 with (fail)
 refine Z05 (fun _=>False) (.q 0 (.q 1 (.q 2 (.q 3 (.q 4 (.q 5 (.q 6 .fin))))))) (by kernel_rfl) (by kernel_rfl) ?_
 intro w2 k0 d0
 have h2:=h1.out.grow d0
 have a0:=Z02 f0.out d0
 have l0:=hd_ (g0.out.trans (d0.mono g0.out.size))
 have u1:=Z01 (F:=fun _=>False) (b:=w2) (fun h=>h) (show w2.cell? ⟨sb,1,none⟩=some (.int .i64 i) from Z00 a0 1)
 have v0:w2.cell? ⟨sb,0,none⟩=some (.int .i64 fn):=Z00 a0 0
 have v1:w2.cell? ⟨sb,1,none⟩=some (.int .i64 i):=Z00 a0 1
 have lv:=Z04 a0
 have lw2:=Z04 h2.blk
 have cx:=h2.cx hi i7
 replace h2:=hd_ h2;replace a0:=hd_ a0;replace d0:=hd_ d0;replace k0:=hd_ k0;clear y1 ly n0;iterate 7 (refine Z0n rfl ?_;go_big_quiet_step (fail);refine wpQuiet_nil ?_)
 clear u1;refine Z0c ?_
 have m0:xV A W i=.pointer none:=by unfold xV;rw [hs];rfl
 rw [m0] at cx
 go_wp2
 go_ret
 exact⟨rfl,l0.out⟩
theorem Z5h (W:Wl) (i:Nat) (h1:1≤i) (hl:i≤W.ps.length) (j:Nat) (hj:1≤j):Z0i { W with ps:=W.ps.modify (i-1) fun p=>{ p with s:=none } } j=if j=i then { Z0i W i with s:=none } else Z0i W j:=by
 unfold Z0i
 dsimp only
 by_cases hji:j=i
 ·subst hji
  rw [List.getD_eq_getElem?_getD,List.getElem?_modify,List.getElem?_eq_getElem (by omega),List.getD_eq_getElem?_getD,List.getElem?_eq_getElem (by omega)]
  simp
 ·have hn:¬ (i-1=j-1):=by omega
  rw [List.getD_eq_getElem?_getD,List.getElem?_modify,List.getD_eq_getElem?_getD]
  simp [hji,hn]
theorem WlO.crash (h:WlO own w0 w A W) (hi:1≤i) (hs:(Z0i W i).s=some s) :
  WlO own w0 ((w.setCell ⟨A.wb,1+i*4,none⟩ (.pointer none)).setCell ⟨A.wb,1+i*4+1,none⟩ (.pointer none)) A { W with ps:=W.ps.modify (i-1) fun p=>{ p with s:=none } } ∧
   KeepW own own w ((w.setCell ⟨A.wb,1+i*4,none⟩ (.pointer none)).setCell ⟨A.wb,1+i*4+1,none⟩ (.pointer none)):=by
 have a0:=PrO.lt7 h.n7 h.len hi hs
 have c0:=Z3r hi hs
 have b0:=fun j hj=>Z5h W i hi c0 j hj
 have b1:=Z0d (o:=1+i*4) (u:=.pointer none) h.blk
 have b2:=Z0d (o:=1+i*4+1) (u:=.pointer none) b1
 refine h.own1 (.same (Z06 (Z06 (Chg.refl _ _) h.ob) h.ob) h.wf) ?_ rfl (by show (W.ps.modify _ _).length=_;rw [List.length_modify]) rfl fun j s2 hj hs2=>?_
 ·rw [b2]
  unfold wlC
  rw [show 1+i*4=1+4*i by omega,Zeu hi a0,show 1+4*i+1=2+4*i by omega,Zev hi a0]
  congr 3
  refine Z46 rfl (fun j h1 h7=>?_) rfl rfl
  unfold xV cV
  rw [b0 j h1]
  by_cases hj:j=i
  ·subst hj;rw [if_pos rfl,Z13,Z13];exact⟨rfl,rfl,rfl,rfl⟩
  ·rw [if_neg hj,Z21 hj,Z21 hj];exact⟨rfl,rfl,rfl,rfl⟩
 ·rw [b0 j hj] at hs2 ⊢
  by_cases hji:j=i
  ·rw [if_pos hji] at hs2;cases hs2
  ·rw [if_neg hji]
theorem Zdm (h:WlO own w0 w A W) (hi:1≤i) (hn:(i:Int)≤W.n) (hs:(Z0i W i).s=some s) (n o l:Int) (d:ByteArray) :
  Calls Tryz.prog 101 #[Z09 A.wb,Z8n 6 i n o l d] w fun r w'=>r=.returned (.int .i64 0)∧WlO own w0 w' A { W with ps:=W.ps.modify (i-1) fun p=>{ p with s:=none } }∧KeepW own own w w':=by
 obtain⟨W0,c0⟩:∃ W0,W0=w.alloc (.cells (Z6i 6 i n o l d) 83):=⟨_,rfl⟩
 have b0:Below w.heap.size w W0:=c0 ▸ (Below.refl _ _).alloc (Nat.le_refl _) _
 obtain⟨sb,j0⟩:∃ sb,sb=w.heap.size:=⟨_,rfl⟩
 have e0:W0.heap[sb]?=some (.cells (Z6i 6 i n o l d) 83 (0,0)):=c0 ▸ j0 ▸ Z0a _ _
 have h0:=h.grow b0
 have x1:W0.cell? ⟨sb,1,none⟩=some (.int .i64 i):=Z00 e0 1
 have lx:=Z04 e0
 have hI:=Z2f h0 i
 rw [decide_eq_true (show (1:Int)≤(i:Int) by omega),decide_eq_true hn] at hI
 have hI:Calls Tryz.prog 102 #[Z09 A.wb, .int .i64 i] W0 fun r w'=>r=.returned (.bool true)∧Below W0.heap.size W0 w':=hI
 replace hI:=hd_ hI;replace h0:=hd_ h0;replace b0:=hd_ b0;replace e0:=hd_ e0;replace h:=hd_ h
 go_enter Tryz.func101,Tryz.ntmps101
 go_upto_region 1 with (fail)
 rw [← c0,← j0]
 replace c0:=hd_ c0;replace j0:=hd_ j0;go_wp2_with fail
 refine hI.out.mono ?_
 rintro r w1 ⟨rfl,i0⟩
 have h1:=h0.out.grow i0
 have f0:=Z02 e0.out i0
 have g0:=b0.out.trans (i0.mono b0.out.size)
 have y1:w1.cell? ⟨sb,1,none⟩=some (.int .i64 i):=Z00 f0 1
 have ly:=Z04 f0
 have n0:=Z04 h1.blk
 have n7:=h1.n7
 have i7:i≤7:=by omega
 replace h1:=hd_ h1;replace f0:=hd_ f0;replace g0:=hd_ g0;clear x1 lx hI i0;go_upto_region 3 with (fail)
 refine Z05 (fun _=>False) (.q 0 (.q 1 (.q 2 (.q 3 (.q 4 (.q 5 (.q 6 .fin))))))) (by kernel_rfl) (by kernel_rfl) ?_
 intro w2 k0 d0
 have h2:=h1.out.grow d0
 have a0:=Z02 f0.out d0
 have l0:=hd_ (g0.out.trans (d0.mono g0.out.size))
 have u1:=Z01 (F:=fun _=>False) (b:=w2) (fun h=>h) (show w2.cell? ⟨sb,1,none⟩=some (.int .i64 i) from Z00 a0 1)
 have v0:w2.cell? ⟨sb,0,none⟩=some (.int .i64 6):=Z00 a0 0
 have v1:w2.cell? ⟨sb,1,none⟩=some (.int .i64 i):=Z00 a0 1
 have lv:=Z04 a0
 have lw2:=Z04 h2.blk
 have cx:=h2.cx hi i7
 replace h2:=hd_ h2;replace a0:=hd_ a0;replace d0:=hd_ d0;replace k0:=hd_ k0;clear y1 ly n0;iterate 7 (refine Z0n rfl ?_;go_big_quiet_step (fail);refine wpQuiet_nil ?_)
 clear u1;refine Z0c ?_
 have m0:xV A W i=Z09 (A.nd i).b:=by unfold xV;rw [hs];rfl
 rw [m0] at cx
 have z1:w2.frozen? ⟨A.wb,1+i*4,none⟩=false:=Z03 h2.out.blk _
 have b1:=Z0d (o:=1+i*4) (u:=.pointer none) h2.out.blk
 have cc:=h2.out.cc hi i7
 have c2:(w2.setCell ⟨A.wb,1+i*4,none⟩ (.pointer none)).cell? ⟨A.wb,1+i*4+1,none⟩=some (cV A W i):=by
  rw [Z00 b1,Array.getElem?_setIfInBounds_ne (by omega),← Z00 h2.out.blk];exact cc
 have z2:(w2.setCell ⟨A.wb,1+i*4,none⟩ (.pointer none)).frozen? ⟨A.wb,1+i*4+1,none⟩=false:=Z03 b1 _
 have hC:=hd_ (h2.out.crash hi hs)
 clear b1 cc;go_wp2
 go_ret
 exact⟨rfl,hC.out.1,(KeepW.below l0.out).trans hC.out.2⟩
theorem Zgr (h:WlO own w0 w A W) (hf:WOk c W) (hc:c<398000) (hi:1≤i) (hn:(i:Int)≤W.n) (hs:(Z0i W i).s=some s) (n o l:Int) (d:ByteArray) :
  Calls Tryz.prog 101 #[Z09 A.wb,Z8n 2 i n o l d] w fun r w'=>∃ own' A',r=.returned (.int .i64 0)∧WlO own' w0 w' A' (W.tick i)∧WOk (c+3) (W.tick i)∧KeepW own own' w w'∧A'.wb=A.wb∧A'.nb=A.nb:=by
 have p0:W.tick i={ W.put i s.tick.1 with net:=Z1x W.net s.tick.2 }:=by
  unfold Wl.tick
  rw [Z47 hi hn,hs]
 rw [p0]
 replace p0:=hd_ p0;replace hf:=hd_ hf
 obtain⟨W0,f0⟩:∃ W0,W0=w.alloc (.cells (Z6i 2 i n o l d) 83):=⟨_,rfl⟩
 have e0:Below w.heap.size w W0:=f0 ▸ (Below.refl _ _).alloc (Nat.le_refl _) _
 obtain⟨sb,o0⟩:∃ sb,sb=w.heap.size:=⟨_,rfl⟩
 have i0:W0.heap[sb]?=some (.cells (Z6i 2 i n o l d) 83 (0,0)):=f0 ▸ o0 ▸ Z0a _ _
 have h0:=h.grow e0
 have x1:W0.cell? ⟨sb,1,none⟩=some (.int .i64 i):=Z00 i0 1
 have lx:=Z04 i0
 have hI:=Z2f h0 i
 rw [decide_eq_true (show (1:Int)≤(i:Int) by omega),decide_eq_true hn] at hI
 have hI:Calls Tryz.prog 102 #[Z09 A.wb, .int .i64 i] W0 fun r w'=>r=.returned (.bool true)∧Below W0.heap.size W0 w':=hI
 replace hI:=hd_ hI;replace h0:=hd_ h0;replace e0:=hd_ e0;replace i0:=hd_ i0;replace h:=hd_ h
 go_enter Tryz.func101,Tryz.ntmps101
 go_upto_region 1 with (fail)
 rw [← f0,← o0]
 replace f0:=hd_ f0;replace o0:=hd_ o0;go_wp2_with fail
 refine hI.out.mono ?_
 rintro r w1 ⟨rfl,m0⟩
 have h1:=h0.out.grow m0
 have j0:=Z02 i0.out m0
 have l0:=e0.out.trans (m0.mono e0.out.size)
 have y1:w1.cell? ⟨sb,1,none⟩=some (.int .i64 i):=Z00 j0 1
 have ly:=Z04 j0
 have j1:=Z04 h1.blk
 have n7:=h1.n7
 have i7:i≤7:=by omega
 replace h1:=hd_ h1;replace j0:=hd_ j0;replace l0:=hd_ l0;clear x1 lx hI m0;go_upto_region 3 with (fail)
 refine Z05 (fun _=>False) (.q 0 (.q 1 (.q 2 (.q 3 (.q 4 (.q 5 (.q 6 .fin))))))) (by kernel_rfl) (by kernel_rfl) ?_
 intro w2 t0 g0
 have h2:=h1.out.grow g0
 have c0:=Z02 j0.out g0
 have c1:=hd_ (l0.out.trans (g0.mono l0.out.size))
 have u1:=Z01 (F:=fun _=>False) (b:=w2) (fun h=>h) (show w2.cell? ⟨sb,1,none⟩=some (.int .i64 i) from Z00 c0 1)
 have v0:w2.cell? ⟨sb,0,none⟩=some (.int .i64 2):=Z00 c0 0
 have v1:w2.cell? ⟨sb,1,none⟩=some (.int .i64 i):=Z00 c0 1
 have lv:=Z04 c0
 have lw2:=Z04 h2.blk
 have cx:=h2.cx hi i7
 replace h2:=hd_ h2;replace c0:=hd_ c0;replace g0:=hd_ g0;replace t0:=hd_ t0;clear y1 ly j1;iterate 7 (refine Z0n rfl ?_;go_big_quiet_step (fail);refine wpQuiet_nil ?_)
 clear u1;refine Z0c ?_
 have s0:xV A W i=Z09 (A.nd i).b:=by unfold xV;rw [hs];rfl
 rw [s0] at cx
 go_upto_region 12 with (fail)
 refine Z0y (fun b o=>¬ (b=A.wb∧(o=33∨o=1+i*4))) (.q 0 (.q 1 (.q 2 (.q 3 (.q 4 (.q 5 (.q 6 (.q 7 (.l 8 (.cut (.l 9 .fin))))))))))) (by kernel_rfl) (by kernel_rfl) ?_
 intro w7 x0 n0
 have h7:=h2.out.grow n0
 have k1:=Z1d (F:=fun b o=>¬ (b=A.wb∧(o=33∨o=1+i*4))) (b:=w7) (fun h=>h ⟨rfl, .inl rfl⟩) h7.cnet
 have d0:=h7.cx hi i7
 rw [s0] at d0
 have ux:=Z1d (F:=fun b o=>¬ (b=A.wb∧(o=33∨o=1+i*4))) (b:=w7) (fun h=>h ⟨rfl, .inr rfl⟩) d0
 have b1:=hd_ h7.cnet
 replace d0:=hd_ d0
 have i1:=hd_ ((KeepW.below (own:=own) c1.out).trans (.below n0))
 have hT:=hd_ (wTick h7 hf.out (by omega) hi hs)
 replace h7:=hd_ h7;replace x0:=hd_ x0;replace n0:=hd_ n0;clear cx;iterate 8 (refine Z6l rfl ?_;go_big_quiet_step (fail);refine wpQuiet_nil ?_)
 clear k1 ux;refine Z4j rfl (by kernel_rfl) ?_;intro K1 hK;go_simp
 refine hT.out.mono ?_
 rintro r w9 ⟨v9,own9,A9,o9,rfl,h9,k9,s9,q9,e9⟩
 refine hK _ _ ⟨k9.size,fun b o hb hF=>?_⟩ ?_
 ·obtain⟨rfl,rfl | rfl⟩:=Decidable.not_not.1 hF
  ·have:=h9.cnet
   rw [s9.wb,s9.nb] at this
   rw [this,b1.out]
  ·have h8:=h9.cx hi i7
   rw [s9.wb,xV_put hi hs s9 i hi,s0] at h8
   rw [h8,d0.out]
 clear hK K1
 have hF:=hf.out.pr i s hi hs
 have a0:=hF.ok.tickM hF.mn (by omega)
 have y0:∀ x ∈ o9.map MsS.m,MayM x:=by rw [e9];exact a0.2
 have q0:=hf.out.put (c:=c) (d:=c+3) (by omega) hi hs (hF.tick (by omega))
 have d1:o9.length≤1000000:=by
  have:=congrArg List.length e9
  rw [List.length_map] at this
  have:=a0.1
  omega
 have hS:=Zdk h9 q0 v9 o9 q9 y0 d1
 rw [e9] at hS
 have r0:=hd_ (q0.send (l:=s.tick.2) a0.2)
 have e1:A9.nb=A.nb:=s9.nb
 rw [e1] at hS
 replace hS:=hd_ hS;replace h9:=hd_ h9
 have f1:=hd_ (i1.out.trans k9)
 replace s9:=hd_ s9;clear hT k9 q9 y0 q0 hF a0 e9;refine Z0h Z1j ?_;refine Z0j rfl (by kernel_rfl) ?_;intro K1 hK;go_simp
 refine hS.out.mono ?_
 rintro r w10 ⟨own10,A10,z10,rfl,k0,b0,z0⟩
 refine hK _ _ (Zko h9.out k0 b0.size) ?_
 clear hK K1;refine Z0c ?_;replace k0:=hd_ k0
 have g1:=hd_ (f1.out.trans b0)
 have a1:=hd_ (s9.out.trans z0)
 clear hS b0 z0;go_wp2
 go_ret
 exact⟨own10,A10,rfl,k0.out,r0.out,g1.out,a1.out.wb,a1.out.nb⟩
theorem Zgs (h:WlO own w0 w A W) (hf:WOk c W) (hlo:0≤(Z0i W i).lost∧(Z0i W i).lost≤1000000) (hi:1≤i) (hn:(i:Int)≤W.n) (hs:(Z0i W i).s=some s) (n o l:Int) (d:ByteArray) :
  Calls Tryz.prog 101 #[Z09 A.wb,Z8n 8 i n o l d] w fun r w'=>∃ own' A',r=.returned (.int .i64 (s.cast o l d).2) ∧
   WlO own' w0 w' A' ((W.put i (s.cast o l d).1).lose i (if (s.cast o l d).2=0 then (Z0i W i).lost else (Z0i W i).lost+1))∧KeepW own own' w w'∧A'.wb=A.wb∧A'.nb=A.nb:=by
 replace hf:=hd_ hf
 have hC:=fun w7 (h7:WlO own w0 w7 A W)=>wCast h7 hf.out hi hs hlo.1 hlo.2 o l d
 obtain⟨Wc,m0⟩:∃ Wc,Wc=(W.put i (s.cast o l d).1).lose i (if (s.cast o l d).2=0 then (Z0i W i).lost else (Z0i W i).lost+1):=⟨_,rfl⟩
 rw [← m0] at hC ⊢
 replace hC:=hd_ hC;replace m0:=hd_ m0
 obtain⟨W0,c0⟩:∃ W0,W0=w.alloc (.cells (Z6i 8 i n o l d) 83):=⟨_,rfl⟩
 have b0:Below w.heap.size w W0:=c0 ▸ (Below.refl _ _).alloc (Nat.le_refl _) _
 obtain⟨sb,k0⟩:∃ sb,sb=w.heap.size:=⟨_,rfl⟩
 have f0:W0.heap[sb]?=some (.cells (Z6i 8 i n o l d) 83 (0,0)):=c0 ▸ k0 ▸ Z0a _ _
 have h0:=h.grow b0
 have x1:W0.cell? ⟨sb,1,none⟩=some (.int .i64 i):=Z00 f0 1
 have lx:=Z04 f0
 have hI:=Z2f h0 i
 rw [decide_eq_true (show (1:Int)≤(i:Int) by omega),decide_eq_true hn] at hI
 have hI:Calls Tryz.prog 102 #[Z09 A.wb, .int .i64 i] W0 fun r w'=>r=.returned (.bool true)∧Below W0.heap.size W0 w':=hI
 replace hI:=hd_ hI;replace h0:=hd_ h0;replace b0:=hd_ b0;replace f0:=hd_ f0;replace h:=hd_ h
 go_enter Tryz.func101,Tryz.ntmps101
 go_upto_region 1 with (fail)
 rw [← c0,← k0]
 replace c0:=hd_ c0;replace k0:=hd_ k0;go_wp2_with fail
 refine hI.out.mono ?_
 rintro r w1 ⟨rfl,j0⟩
 have h1:=h0.out.grow j0
 have g0:=Z02 f0.out j0
 have i0:=b0.out.trans (j0.mono b0.out.size)
 have y1:w1.cell? ⟨sb,1,none⟩=some (.int .i64 i):=Z00 g0 1
 have ly:=Z04 g0
 have x0:=Z04 h1.blk
 have n7:=h1.n7
 have i7:i≤7:=by omega
 replace h1:=hd_ h1;replace g0:=hd_ g0;replace i0:=hd_ i0;clear x1 lx hI j0;go_upto_region 3 with (fail)
 refine Z05 (fun _=>False) (.q 0 (.q 1 (.q 2 (.q 3 (.q 4 (.q 5 (.q 6 .fin))))))) (by kernel_rfl) (by kernel_rfl) ?_
 intro w2 o0 d0
 have h2:=h1.out.grow d0
 have a0:=Z02 g0.out d0
 have q0:=hd_ (i0.out.trans (d0.mono i0.out.size))
 have u1:=Z01 (F:=fun _=>False) (b:=w2) (fun h=>h) (show w2.cell? ⟨sb,1,none⟩=some (.int .i64 i) from Z00 a0 1)
 have v0:w2.cell? ⟨sb,0,none⟩=some (.int .i64 8):=Z00 a0 0
 have v1:w2.cell? ⟨sb,1,none⟩=some (.int .i64 i):=Z00 a0 1
 have lv:=Z04 a0
 have lw2:=Z04 h2.blk
 have cx:=h2.cx hi i7
 replace h2:=hd_ h2;replace a0:=hd_ a0;replace d0:=hd_ d0;replace o0:=hd_ o0;clear y1 ly x0;iterate 7 (refine Z0n rfl ?_;go_big_quiet_step (fail);refine wpQuiet_nil ?_)
 clear u1;refine Z0c ?_
 have s0:xV A W i=Z09 (A.nd i).b:=by unfold xV;rw [hs];rfl
 rw [s0] at cx
 go_upto_region 4 with (fail)
 refine Z05 (fun _=>False) (.q 0 (.q 1 (.q 2 (.q 3 (.q 4 (.q 5 (.q 6 (.q 7 (.q 8 (.q 9 (.cut (.l 10 (.q 11 .fin))))))))))))) (by kernel_rfl) (by kernel_rfl) ?_
 intro w7 p0 e0
 have h7:=h2.out.grow e0
 have l0:=Z02 a0.out e0
 have t0:=hd_ ((KeepW.below (own:=own) q0.out).trans (.below e0))
 have cc:=h7.cc hi i7
 have r0:cV A W i=Z09 (A.cb i):=by unfold cV;rw [hs];rfl
 rw [r0] at cc
 have uc:=Z01 (F:=fun _=>False) (b:=w7) (fun h=>h) cc
 have u3:=Z01 (F:=fun _=>False) (b:=w7) (fun h=>h) (show w7.cell? ⟨sb,3,none⟩=some (.int .i64 o) from Z00 l0 3)
 have u4:=Z01 (F:=fun _=>False) (b:=w7) (fun h=>h) (show w7.cell? ⟨sb,4,none⟩=some (.int .i64 l) from Z00 l0 4)
 have u5:=Z01 (F:=fun _=>False) (b:=w7) (fun h=>h) (show w7.cell? ⟨sb,5,none⟩=some (.string d) from Z00 l0 5)
 have n0:=hd_ (hC.out w7 h7)
 replace h7:=hd_ h7;replace p0:=hd_ p0;replace e0:=hd_ e0;clear cx cc hC l0;iterate 10 (refine Z0n rfl ?_;go_big_quiet_step (fail);refine wpQuiet_nil ?_)
 clear uc u3 u4 u5;refine Z0h Z1j ?_;refine Z0j rfl (by kernel_rfl) ?_;intro K1 hK;go_simp
 refine n0.out.mono ?_
 rintro r w8 ⟨own8,A8,rfl,h8,k8,e1,e2⟩
 refine hK _ _ (Zko h7.out h8 k8.size) ?_
 clear hK K1 n0;replace h8:=hd_ h8
 have k9:=hd_ (t0.out.trans k8)
 replace e1:=hd_ e1;replace e2:=hd_ e2;clear k8;refine Z0n rfl ?_;go_big_quiet_step (fail);refine wpQuiet_nil ?_;refine Z0c ?_;go_wp2
 go_ret
 exact⟨own8,A8,rfl,h8.out,k9.out,e1.out,e2.out⟩
end
end
section
open Go.RowKit
section
variable {own own':Nat→Nat} {w0 w w':World} {A A':WlAt} {W:Wl} {i c:Nat} {s:Nd}
theorem Z6j (h:WlO own w0 w A W) (fn a n o l:Int) (d:ByteArray) (hfn:¬ (1≤fn∧fn≤9)) :
  Calls Tryz.prog 43 #[Z09 A.wb,Z8n fn a n o l d] w fun r w'=>r=.returned (.int .i64 1)∧Below w.heap.size w w':=by
 have f1:(fn==1)=false:=by simp;omega
 have f2:(fn==2)=false:=by simp;omega
 have f3:(fn==3)=false:=by simp;omega
 have f4:(fn==4)=false:=by simp;omega
 have f5:(fn==5)=false:=by simp;omega
 have f6:(fn==6)=false:=by simp;omega
 have f7:(fn==7)=false:=by simp;omega
 have f8:(fn==8)=false:=by simp;omega
 have f9:(fn==9)=false:=by simp;omega
 obtain⟨W0,b0⟩:∃ W0,W0=w.alloc (.cells (Z6i fn a n o l d) 83):=⟨_,rfl⟩
 have c0:Below w.heap.size w W0:=b0 ▸ (Below.refl _ _).alloc (Nat.le_refl _) _
 obtain⟨sb,d0⟩:∃ sb,sb=w.heap.size:=⟨_,rfl⟩
 have a0:W0.heap[sb]?=some (.cells (Z6i fn a n o l d) 83 (0,0)):=b0 ▸ d0 ▸ Z0a _ _
 have h0:=h.grow c0
 have x0:W0.cell? ⟨sb,0,none⟩=some (.int .i64 fn):=Z00 a0 0
 have x1:W0.cell? ⟨sb,1,none⟩=some (.int .i64 a):=Z00 a0 1
 have x2:W0.cell? ⟨sb,2,none⟩=some (.int .i64 n):=Z00 a0 2
 have x3:W0.cell? ⟨sb,3,none⟩=some (.int .i64 o):=Z00 a0 3
 have x4:W0.cell? ⟨sb,4,none⟩=some (.int .i64 l):=Z00 a0 4
 have x5:W0.cell? ⟨sb,5,none⟩=some (.string d):=Z00 a0 5
 have lx:=Z04 a0
 replace h0:=hd_ h0;replace c0:=hd_ c0;replace a0:=hd_ a0;replace h:=hd_ h
 go_enter Tryz.func43,Tryz.ntmps43
 go_upto_region 1 with (fail)
 rw [← b0,← d0]
 replace b0:=hd_ b0;replace d0:=hd_ d0;go_wp2
 go_ret
 exact⟨rfl,c0.out⟩
theorem Zdn (h:WlO own w0 w A W) (h0r:0≤W.real) (h1r:W.real≤1000000) (a n o l:Int) (d:ByteArray) :
  Calls Tryz.prog 43 #[Z09 A.wb,Z8n 1 a n o l d] w fun r w'=>r=.returned (.int .i64 0)∧WlO own w0 w' A { W with real:=W.real+1 }∧KeepW own own w w':=by
 obtain⟨W0,c0⟩:∃ W0,W0=w.alloc (.cells (Z6i 1 a n o l d) 83):=⟨_,rfl⟩
 have d0:Below w.heap.size w W0:=c0 ▸ (Below.refl _ _).alloc (Nat.le_refl _) _
 obtain⟨sb,f0⟩:∃ sb,sb=w.heap.size:=⟨_,rfl⟩
 have b0:W0.heap[sb]?=some (.cells (Z6i 1 a n o l d) 83 (0,0)):=c0 ▸ f0 ▸ Z0a _ _
 have h0:=h.grow d0
 have x0:W0.cell? ⟨sb,0,none⟩=some (.int .i64 1):=Z00 b0 0
 have x1:W0.cell? ⟨sb,1,none⟩=some (.int .i64 a):=Z00 b0 1
 have x2:W0.cell? ⟨sb,2,none⟩=some (.int .i64 n):=Z00 b0 2
 have x3:W0.cell? ⟨sb,3,none⟩=some (.int .i64 o):=Z00 b0 3
 have x4:W0.cell? ⟨sb,4,none⟩=some (.int .i64 l):=Z00 b0 4
 have x5:W0.cell? ⟨sb,5,none⟩=some (.string d):=Z00 b0 5
 have lx:=Z04 b0
 have g0:=h0.creal
 have i0:=Z03 h0.blk 34
 have lwb:=Z04 h0.blk
 have a0:=h0.setReal (W.real+1)
 obtain⟨W5,e0⟩:∃ W5,W5=W0.setCell ⟨A.wb,34,none⟩ (.int .i64 (W.real+1)):=⟨_,rfl⟩
 rw [← e0] at a0
 replace a0:=hd_ a0;replace h0:=hd_ h0;replace d0:=hd_ d0;replace b0:=hd_ b0;replace h:=hd_ h
 go_enter Tryz.func43,Tryz.ntmps43
 go_upto_region 1 with (fail)
 rw [← c0,← f0]
 replace c0:=hd_ c0;replace f0:=hd_ f0;go_upto_region 6 with (fail)
 rw [← e0]
 replace e0:=hd_ e0;clear g0 i0 x0 x1 x2 x3 x4 x5;go_wp2
 go_ret
 exact⟨rfl,a0.out.1,(KeepW.below d0.out).trans a0.out.2⟩
theorem Zdo (h:WlO own w0 w A W) (fn:Int) (hfn:fn=3∨fn=4∨fn=5) (a n o l:Int) (d:ByteArray) (Q:Int→World→Prop)
  (hM:∀ w1,WlO own w0 w1 A W→Below w.heap.size w w1→Calls Tryz.prog 100 #[Z09 A.wb,Z8n fn a n o l d] w1 fun r w'=>∃ z,r=.returned (.int .i64 z)∧Q z w') :
  Calls Tryz.prog 43 #[Z09 A.wb,Z8n fn a n o l d] w fun r w'=>∃ z,r=.returned (.int .i64 z)∧Q z w':=by
 obtain⟨W0,b0⟩:∃ W0,W0=w.alloc (.cells (Z6i fn a n o l d) 83):=⟨_,rfl⟩
 have c0:Below w.heap.size w W0:=b0 ▸ (Below.refl _ _).alloc (Nat.le_refl _) _
 obtain⟨sb,d0⟩:∃ sb,sb=w.heap.size:=⟨_,rfl⟩
 have a0:W0.heap[sb]?=some (.cells (Z6i fn a n o l d) 83 (0,0)):=b0 ▸ d0 ▸ Z0a _ _
 have h0:=h.grow c0
 have x0:W0.cell? ⟨sb,0,none⟩=some (.int .i64 fn):=Z00 a0 0
 have x1:W0.cell? ⟨sb,1,none⟩=some (.int .i64 a):=Z00 a0 1
 have x2:W0.cell? ⟨sb,2,none⟩=some (.int .i64 n):=Z00 a0 2
 have x3:W0.cell? ⟨sb,3,none⟩=some (.int .i64 o):=Z00 a0 3
 have x4:W0.cell? ⟨sb,4,none⟩=some (.int .i64 l):=Z00 a0 4
 have x5:W0.cell? ⟨sb,5,none⟩=some (.string d):=Z00 a0 5
 have lx:=Z04 a0
 have e0:=hd_ (hM W0 h0 c0)
 clear hM;replace h0:=hd_ h0;replace c0:=hd_ c0;replace a0:=hd_ a0;replace h:=hd_ h
 rcases hfn with rfl | rfl | rfl
 all_goals
  go_enter Tryz.func43,Tryz.ntmps43
  go_upto_region 1 with (fail)
  rw [← b0,← d0]
  replace b0:=hd_ b0;replace d0:=hd_ d0;go_wp2_with fail
  refine e0.out.mono ?_
  rintro r w2 ⟨z,rfl,hq⟩;replace hq:=hd_ hq;clear e0 x0 x1 x2 x3 x4 x5 lx;go_wp2
  go_ret
  exact⟨z,rfl,hq.out⟩
theorem Zgt (h:WlO own w0 w A W) (fn:Int) (hfn:fn=2∨fn=6∨fn=7∨fn=8) (a n o l:Int) (d:ByteArray) (Q:Int→World→Prop)
  (hM:∀ w1,WlO own w0 w1 A W→Below w.heap.size w w1→Calls Tryz.prog 101 #[Z09 A.wb,Z8n fn a n o l d] w1 fun r w'=>∃ z,r=.returned (.int .i64 z)∧Q z w') :
  Calls Tryz.prog 43 #[Z09 A.wb,Z8n fn a n o l d] w fun r w'=>∃ z,r=.returned (.int .i64 z)∧Q z w':=by
 obtain⟨W0,b0⟩:∃ W0,W0=w.alloc (.cells (Z6i fn a n o l d) 83):=⟨_,rfl⟩
 have c0:Below w.heap.size w W0:=b0 ▸ (Below.refl _ _).alloc (Nat.le_refl _) _
 obtain⟨sb,d0⟩:∃ sb,sb=w.heap.size:=⟨_,rfl⟩
 have a0:W0.heap[sb]?=some (.cells (Z6i fn a n o l d) 83 (0,0)):=b0 ▸ d0 ▸ Z0a _ _
 have h0:=h.grow c0
 have x0:W0.cell? ⟨sb,0,none⟩=some (.int .i64 fn):=Z00 a0 0
 have x1:W0.cell? ⟨sb,1,none⟩=some (.int .i64 a):=Z00 a0 1
 have x2:W0.cell? ⟨sb,2,none⟩=some (.int .i64 n):=Z00 a0 2
 have x3:W0.cell? ⟨sb,3,none⟩=some (.int .i64 o):=Z00 a0 3
 have x4:W0.cell? ⟨sb,4,none⟩=some (.int .i64 l):=Z00 a0 4
 have x5:W0.cell? ⟨sb,5,none⟩=some (.string d):=Z00 a0 5
 have lx:=Z04 a0
 have e0:=hd_ (hM W0 h0 c0)
 clear hM;replace h0:=hd_ h0;replace c0:=hd_ c0;replace a0:=hd_ a0;replace h:=hd_ h
 rcases hfn with rfl | rfl | rfl | rfl
 all_goals
  go_enter Tryz.func43,Tryz.ntmps43
  go_upto_region 1 with (fail)
  rw [← b0,← d0]
  replace b0:=hd_ b0;replace d0:=hd_ d0;go_wp2_with fail
  refine e0.out.mono ?_
  rintro r w2 ⟨z,rfl,hq⟩;replace hq:=hd_ hq;clear e0 x0 x1 x2 x3 x4 x5 lx;go_wp2
  go_ret
  exact⟨z,rfl,hq.out⟩
theorem Z7q (h:WlO own w0 w A W) (fn:Int) (hfn:fn=9) (a n o l:Int) (d:ByteArray) (Q:Int→World→Prop)
  (hM:∀ w1,WlO own w0 w1 A W→Below w.heap.size w w1→Calls Tryz.prog 99 #[Z09 A.wb, .int .i64 n] w1 fun r w'=>∃ z,r=.returned (.int .i64 z)∧Q z w') :
  Calls Tryz.prog 43 #[Z09 A.wb,Z8n fn a n o l d] w fun r w'=>∃ z,r=.returned (.int .i64 z)∧Q z w':=by
 obtain⟨W0,b0⟩:∃ W0,W0=w.alloc (.cells (Z6i fn a n o l d) 83):=⟨_,rfl⟩
 have c0:Below w.heap.size w W0:=b0 ▸ (Below.refl _ _).alloc (Nat.le_refl _) _
 obtain⟨sb,d0⟩:∃ sb,sb=w.heap.size:=⟨_,rfl⟩
 have a0:W0.heap[sb]?=some (.cells (Z6i fn a n o l d) 83 (0,0)):=b0 ▸ d0 ▸ Z0a _ _
 have h0:=h.grow c0
 have x0:W0.cell? ⟨sb,0,none⟩=some (.int .i64 fn):=Z00 a0 0
 have x1:W0.cell? ⟨sb,1,none⟩=some (.int .i64 a):=Z00 a0 1
 have x2:W0.cell? ⟨sb,2,none⟩=some (.int .i64 n):=Z00 a0 2
 have x3:W0.cell? ⟨sb,3,none⟩=some (.int .i64 o):=Z00 a0 3
 have x4:W0.cell? ⟨sb,4,none⟩=some (.int .i64 l):=Z00 a0 4
 have x5:W0.cell? ⟨sb,5,none⟩=some (.string d):=Z00 a0 5
 have lx:=Z04 a0
 have e0:=hd_ (hM W0 h0 c0)
 clear hM;replace h0:=hd_ h0;replace c0:=hd_ c0;replace a0:=hd_ a0;replace h:=hd_ h;subst hfn
 all_goals
  go_enter Tryz.func43,Tryz.ntmps43
  go_upto_region 1 with (fail)
  rw [← b0,← d0]
  replace b0:=hd_ b0;replace d0:=hd_ d0;go_wp2_with fail
  refine e0.out.mono ?_
  rintro r w2 ⟨z,rfl,hq⟩;replace hq:=hd_ hq;clear e0 x0 x1 x2 x3 x4 x5 lx;go_wp2
  go_ret
  exact⟨z,rfl,hq.out⟩
theorem Zdp (h:WlO own w0 w A W) (hi:1≤i) (hn:(i:Int)≤W.n):Calls Tryz.prog 66 #[Z09 A.wb, .int .i64 i] w fun r w'=>r=.returned (cV A W i)∧Below w.heap.size w w':=by
 have hI:=Z2f h i
 rw [decide_eq_true (show (1:Int)≤(i:Int) by omega),decide_eq_true hn] at hI
 replace hI:=hd_ hI
 have n7:=h.n7
 have i7:i≤7:=by omega
 have cx:=h.cc hi i7
 have hl:=Z04 h.blk
 generalize cV A W i=xv at cx ⊢
 replace h:=hd_ h
 go_enter Tryz.func66,Tryz.ntmps66
 go_wp2_with fail
 refine hI.out.mono ?_
 rintro r w1 ⟨rfl,a0⟩
 have cx1:w1.cell? ⟨A.wb,1+i*4+1,none⟩=some xv:=by rw [a0.cell hl];exact cx
 have hl1:A.wb<w1.heap.size:=Nat.lt_of_lt_of_le hl a0.size
 replace a0:=hd_ a0;clear cx hI
 simp only [Bool.and_self]
 go_wp2
 go_ret
 exact⟨rfl,a0.out⟩
theorem Zk2 (h:WlO own w0 w A W) (hi:1≤i) (hn:(i:Int)≤W.n):Calls Tryz.prog 59 #[Z09 A.wb, .int .i64 i] w fun r w'=>r=.returned (.pointer (some ⟨A.wb,1+i*4+2,none⟩))∧Below w.heap.size w w':=by
 have hI:=Z2f h i
 rw [decide_eq_true (show (1:Int)≤(i:Int) by omega),decide_eq_true hn] at hI
 replace hI:=hd_ hI
 have n7:=h.n7
 have i7:i≤7:=by omega
 have hl:=Z04 h.blk
 replace h:=hd_ h
 go_enter Tryz.func59,Tryz.ntmps59
 go_wp2_with fail
 refine hI.out.mono ?_
 rintro r w1 ⟨rfl,a0⟩
 have hl1:A.wb<w1.heap.size:=Nat.lt_of_lt_of_le hl a0.size
 replace a0:=hd_ a0;clear hI
 simp only [Bool.and_self]
 go_wp2
 go_ret
 exact⟨rfl,a0.out⟩
end
end
section
open Go.RowKit
def Zgv (n:Int) (i:Nat):Pr:=⟨some (Nd.make ((i:Nat)+1:Nat) n 1 0),0,0,1,0⟩
def Wl.made (n:Int) (k:Nat):Wl:=⟨n,(List.range n.toNat).map fun (i:Nat)=>if i<k then Zgv n i else pr0,[],0⟩
theorem Z4i (n:Int) (k i:Nat) (hi:1≤i):Z0i (Wl.made n k) i=if (i:Int)≤n∧i≤k then Zgv n (i-1) else pr0:=by
 unfold Z0i Wl.made
 dsimp only
 rw [List.getD_eq_getElem?_getD,List.getElem?_map]
 by_cases h:i-1<n.toNat
 ·rw [List.getElem?_range h]
  show (if i-1<k then Zgv n (i-1) else pr0)=_
  by_cases hk:i≤k
  ·rw [if_pos (by omega),if_pos ⟨by omega,hk⟩]
  ·rw [if_neg (by omega),if_neg (fun h=>hk h.2)]
 ·rw [List.getElem?_eq_none (by rw [List.length_range];omega),if_neg (by omega)];rfl
theorem Z5i (n:Int) (k:Nat) (hk:n.toNat≤k):Wl.made n k=Wl.make n:=by
 unfold Wl.made Wl.make
 congr 1
 apply List.map_congr_left
 intro i hi
 have:=List.mem_range.1 hi
 rw [if_pos (by omega)];rfl
theorem Zgw (n:Int) (k:Nat) (hk:(k:Int)<n):((Wl.made n k).start ((k+1:Nat):Int)).1=Wl.made n (k+1)∧((Wl.made n k).start ((k+1:Nat):Int)).2=0:=by
 have hp:(Wl.made n k).get ((k+1:Nat):Int)=pr0:=by
  rw [Z22 _ (k+1) (by omega),Z4i n k (k+1) (by omega),if_neg (by omega)]
 unfold Wl.start
 dsimp only
 rw [hp]
 refine⟨?_,rfl⟩
 show ({ Wl.made n k with ps:=_ }:Wl)=_
 unfold Wl.made
 dsimp only
 congr 1
 apply List.ext_getElem?
 intro j
 rw [List.getElem?_set,List.getElem?_map,List.getElem?_map,List.length_map,List.length_range,show (((k+1:Nat):Int)-1).toNat=k by omega]
 by_cases hj:k=j
 ·subst hj
  rw [if_pos rfl,if_pos (by omega),List.getElem?_range (by omega)]
  show _=some (if k<k+1 then Zgv n k else pr0)
  rw [if_pos (Nat.lt_succ_self k)];rfl
 ·rw [if_neg hj]
  by_cases hl:j<n.toNat
  ·rw [List.getElem?_range hl]
   show some (if j<k then Zgv n j else pr0)=some (if j<k+1 then Zgv n j else pr0)
   by_cases h:j<k
   ·rw [if_pos h,if_pos (by omega)]
   ·rw [if_neg h,if_neg (by omega)]
  ·rw [List.getElem?_eq_none (by rw [List.length_range];omega)];rfl
theorem WOk.made {n:Int} (h3:3≤n) (h7:n≤7) (k:Nat):WOk 0 (Wl.made n k):=by
 refine⟨fun i s h1 hs=>?_,fun m hm=>(by cases hm),Nat.zero_le _,Int.le_refl _,Int.le_refl _⟩
 rw [Z4i n k i h1] at hs
 split at hs
 ·next h=>
  have hs:some (Nd.make ((i-1+1:Nat):Int) n 1 0)=some s:=hs
  injection hs with hs
  rw [← hs]
  exact Full.make h3 h7 (by omega) (by omega) (by omega) (by omega) (by omega) (by omega)
 ·cases hs
theorem WOd.made {n:Int} (k:Nat):WOd 1 (Wl.made n k):=by
 have z:(0:Int)≤0∧(0:Int)≤((1:Nat):Int):=⟨by omega,by omega⟩
 refine⟨fun i h1=>?_,fun i h1=>?_,fun i h1=>?_⟩
 ·rw [Z4i n k i h1]
  split
  ·exact⟨by show (0:Int)≤1;omega,by show (1:Int)≤((1:Nat):Int);omega⟩
  ·exact z
 ·rw [Z4i n k i h1]
  split<;>exact⟨by show (0:Int)≤0;omega,by show (0:Int)≤1099511627776;omega⟩
 ·rw [Z4i n k i h1]
  split<;>exact z
theorem WOd.up {c d:Nat} {W:Wl} (h:WOd c W) (hd:c≤d):WOd d W:=⟨fun i h1=>⟨(h.b i h1).1,by have:=(h.b i h1).2;omega⟩,h.d,fun i h1=>⟨(h.l i h1).1,by have:=(h.l i h1).2;omega⟩⟩
section
variable {own own':Nat→Nat} {w0 w w':World} {A A':WlAt} {W:Wl} {i c:Nat} {s:Nd}
theorem Zk3 (w:World):Calls Tryz.prog 103 #[] w fun r w'=>r=.returned (Z09 w.heap.size)∧w'=w.alloc (.cells #[.slice none 0 0] 154):=by
 go_enter Tryz.func103,Tryz.ntmps103
 go_wp2
 go_ret
 exact⟨rfl,rfl⟩
theorem WlO.zero (w:World) (m0:∃ m,w.cell? ⟨0,0,none⟩=some (.int .i64 m)) {n:Int} (h3:3≤n) (h7:n≤7) (nd:Nat→NdAt) (cb:Nat→Nat) :
  WlO (fun c=>if c=w.heap.size+1 then 1 else if c=w.heap.size then 2 else 0) w ((w.alloc (.cells #[.slice none 0 0] 154)).alloc (.cells (wlL n (fun _=>.pointer none) (fun _=>.pointer none) (fun _=>0) (fun _=>0) w.heap.size 0).toArray 149)) ⟨w.heap.size+1,w.heap.size, .slice none 0 0,nd,cb⟩ (Wl.made n 0):=by
 have hp:∀ i,1≤i→Z0i (Wl.made n 0) i=pr0:=fun i h1=>by rw [Z4i n 0 i h1,if_neg (by omega)]
 have e1:((w.alloc (.cells #[.slice none 0 0] 154)).alloc (.cells (wlL n (fun _=>.pointer none) (fun _=>.pointer none) (fun _=>0) (fun _=>0) w.heap.size 0).toArray 149)).heap.size=w.heap.size+2:=by
  rw [World.size_alloc,World.size_alloc]
 refine⟨fun c hc=>by rw [if_neg (by omega),if_neg (by omega)],((Below.refl _ _).alloc (Nat.le_refl _) _).alloc (by rw [World.size_alloc];omega) _,m0,fun c hc=>by rw [if_neg (by omega),if_neg (by omega)],by rw [if_pos rfl],?_,h3,h7,?_,fun i s h1 hs=>(by rw [hp i h1] at hs;cases hs),?_⟩
 ·show (World.alloc _ _).heap[w.heap.size+1]?=_
  rw [Ziq]
  unfold wlC
  congr 3
  refine Z46 rfl (fun j h1 _=>?_) rfl rfl
  unfold xV cV
  rw [hp j h1];exact⟨rfl,rfl,rfl,rfl⟩
 ·show (((List.map _ _).length:Nat):Int)=n
  rw [List.length_map,List.length_range];omega
 ·refine⟨by show (if w.heap.size=w.heap.size+1 then 1 else if w.heap.size=w.heap.size then 2 else 0)=2;rw [if_neg (by omega),if_pos rfl],?_,⟨[],rfl,Z12 _ _ _ _,fun x hx=>(by cases hx)⟩,fun k hk=>(by cases hk)⟩
  exact Z02 (Z0a _ _) ((Below.refl _ _).alloc (by rw [World.size_alloc];omega) _)
theorem wlNew_ok (w:World) (m0:∃ m,w.cell? ⟨0,0,none⟩=some (.int .i64 m)) (n:Int) (h3:3≤n) (h7:n≤7) :
  Calls Tryz.prog 46 #[.int .i64 n] w fun r w'=>∃ own A,r=.returned (Z09 A.wb)∧WlO own w w' A (Wl.make n):=by
 obtain⟨N,hN⟩:∃ N:Nat,n=N:=⟨n.toNat,by omega⟩
 subst hN
 have e0:Z1y 1 (N:Int)=1:=by unfold Z1y;rw [if_neg (by omega)];simp
 have hZ:=hd_ fun nd cb=>WlO.zero w m0 h3 h7 nd cb
 obtain⟨W2,b0⟩:∃ W2,W2=(w.alloc (.cells #[.slice none 0 0] 154)).alloc (.cells #[.int .i64 N, .pointer none, .pointer none, .int .i64 0, .int .i64 0, .pointer none, .pointer none, .int .i64 0, .int .i64 0, .pointer none, .pointer none, .int .i64 0, .int .i64 0, .pointer none, .pointer none, .int .i64 0, .int .i64 0,
  .pointer none, .pointer none, .int .i64 0, .int .i64 0, .pointer none, .pointer none, .int .i64 0, .int .i64 0, .pointer none, .pointer none, .int .i64 0, .int .i64 0, .pointer none, .pointer none, .int .i64 0, .int .i64 0,Z09 w.heap.size, .int .i64 0] 149):=⟨_,rfl⟩
 have c0:∃ own A,A.wb=w.heap.size+1∧WlO own w W2 A (Wl.made N 0):=by
  rw [b0]
  exact⟨_,⟨w.heap.size+1,w.heap.size, .slice none 0 0,fun _=>⟨0,0,0,#[],149,0,0,0,0,0,0,0,0,none,none, .slice none 0 0, .slice none 0 0⟩,fun _=>0⟩,rfl,hZ.out _ _⟩
 replace c0:=hd_ c0;clear hZ
 go_enter Tryz.func46,Tryz.ntmps46
 go_wp2_with fail
 refine (Z0p 1 (N:Int) _ (by omega) (by omega)).mono ?_
 rintro r wx ⟨rfl,rfl⟩
 rw [e0]
 go_wp2_with fail
 refine (Zk3 _).mono ?_
 rintro r wx ⟨rfl,rfl⟩;go_upto_region 4 with (fail)
 rw [← b0]
 replace b0:=hd_ b0
 obtain⟨own2,A2,d0,h2⟩:=c0.out
 rw [← d0]
 replace h2:=hd_ h2;replace d0:=hd_ d0;clear c0;go_wp2
 go_loopw [4] (fun i wr=>∃ (k:Nat) (own':Nat→Nat) (A':WlAt),k≤N∧i=.int .i64 ((k+1:Nat):Int)∧WlO own' w wr A' (Wl.made N k)∧A'.wb=A2.wb) (fun i _=>N+1-(intOf i).toNat)
 case atStart=>exact⟨0,own2,A2,Nat.zero_le _,by go_num,h2.out,rfl⟩
 case round=>
  obtain⟨k,own3,A3,hk,rfl,a0,e3⟩:=hrel
  by_cases hlt:k<N
  ·have hle:decide (((k+1:Nat):Int)≤(N:Int))=true:=decide_eq_true (by omega)
   have f0:decide ((k:Int)+1≤(N:Int))=true:=decide_eq_true (by omega)
   have g0:=Zgw (N:Int) k (by omega)
   have hS:=Z7p a0 (c:=1) (WOd.made k) (by omega) (i:=k+1) (by omega) (show ((k+1:Nat):Int)≤(N:Int) by omega)
   rw [g0.1,g0.2,e3] at hS
   have h0:((k+1:Nat):Int)=(k:Int)+1:=by omega
   replace hS:=hd_ hS;replace a0:=hd_ a0;replace e3:=hd_ e3;clear g0;go_wp2_with fail
   refine hS.out.mono ?_
   rintro r w4 ⟨own4,A4,rfl,h4,k4,e4,e5⟩;replace h4:=hd_ h4;clear hS k4;go_wp2
   go_roundw
   case rel=>exact⟨k+1,own4,A4,by omega,by go_num,h4.out,e4⟩
   case measure=>simp [intOf];omega
  ·have i0:k=N:=by omega
   subst i0
   have f0:decide ((k:Int)+1≤(k:Int))=false:=decide_eq_false (by omega)
   rw [Z5i (k:Int) k (by omega)] at a0
   replace a0:=hd_ a0;go_wp2
   go_ret
   exact⟨own3,A3,by rw [e3];rfl,a0.out⟩
end
end
section
open Go.RowKit
theorem cast_dv (s:Nd) (o l:Int) (d:ByteArray):(s.cast o l d).1.dv=s.dv:=by
 unfold Nd.cast
 repeat' split
 all_goals rfl
theorem ps_at (W:Wl) (i:Nat) (hi:1≤i) (hl:i≤W.ps.length):W.ps[i-1]?=some (Z0i W i):=by
 unfold Z0i
 rw [List.getD_eq_getElem?_getD,List.getElem?_eq_getElem (by omega)];rfl
section
variable {W W':Wl} {i c d:Nat} {s:Nd}
theorem one_in (hi:1≤i) (hn:(i:Int)≤W.n):W.is i=true:=by
 unfold Wl.is
 rw [decide_eq_true (show (1:Int)≤(i:Int) by omega),decide_eq_true hn];rfl
theorem one_cast (hi:1≤i) (hn:(i:Int)≤W.n) (hl:i≤W.ps.length) (hs:(Z0i W i).s=some s) (hdv:(Z0i W i).dv=s.dv) (o l:Int) (d:ByteArray) :
  W.one 8 i o l d=((W.put i (s.cast o l d).1).lose i (if (s.cast o l d).2=0 then (Z0i W i).lost else (Z0i W i).lost+1),(s.cast o l d).2):=by
 unfold Wl.one
 rw [one_in hi hn,Z22 W i hi,hs]
 show (({ W with ps:=W.ps.modify ((i:Int)-1).toNat fun p=>{ p with s:=some (s.cast o l d).1,lost:=if (s.cast o l d).2==0 then p.lost else p.lost+1 } }:Wl),(s.cast o l d).2)=_
 unfold Wl.lose Wl.put
 dsimp only
 rw [show ((i:Int)-1).toNat=i-1 by omega]
 congr 2
 apply List.ext_getElem?
 intro k
 rw [List.getElem?_modify,List.getElem?_modify,List.getElem?_modify]
 by_cases hk:i-1=k
 ·subst hk
  rw [ps_at W i hi hl]
  have a0:=cast_dv s o l d
  simp [a0,← hdv]
 ·simp [hk]
theorem WOd.ps (h:WOd c W) (e:W'.ps=W.ps):WOd c W':=by
 have k:∀ i,Z0i W' i=Z0i W i:=fun i=>by unfold Z0i;rw [e]
 exact⟨fun i h1=>by rw [k];exact h.b i h1,fun i h1=>by rw [k];exact h.d i h1,fun i h1=>by rw [k];exact h.l i h1⟩
theorem WOd.put (h:WOd c W) (hi:1≤i) (hl:i≤W.ps.length) (s:Nd) (h0:0≤s.dv) (h1:s.dv≤1099511627776):WOd c (W.put i s):=by
 refine⟨fun j hj=>?_,fun j hj=>?_,fun j hj=>?_⟩
 ·rw [Z3q W i s hi hl j hj];split
  ·exact h.b i hi
  ·exact h.b j hj
 ·rw [Z3q W i s hi hl j hj];split
  ·exact⟨h0,h1⟩
  ·exact h.d j hj
 ·rw [Z3q W i s hi hl j hj];split
  ·exact h.l i hi
  ·exact h.l j hj
theorem WOd.lose (h:WOd c W) (hi:1≤i) (hl:i≤W.ps.length) {z:Int} (h0:0≤z) (h1:z≤c):WOd c (W.lose i z):=by
 refine⟨fun j hj=>?_,fun j hj=>?_,fun j hj=>?_⟩
 ·rw [Z7o W i z hi hl j hj];split
  ·exact h.b i hi
  ·exact h.b j hj
 ·rw [Z7o W i z hi hl j hj];split
  ·exact h.d i hi
  ·exact h.d j hj
 ·rw [Z7o W i z hi hl j hj];split
  ·exact⟨h0,h1⟩
  ·exact h.l j hj
theorem WOk.lose (h:WOk c W) (hi:1≤i) (hl:i≤W.ps.length) (z:Int):WOk c (W.lose i z):=by
 refine⟨fun j s hj hs=>?_,h.net,h.n400,h.r0,h.r1⟩
 rw [Z7o W i z hi hl j hj] at hs
 split at hs
 ·exact h.pr i s hi hs
 ·exact h.pr j s hj hs
theorem WOk.net' (h:WOk c W) {l:List Ms} (hl:∀ m ∈ l,m ∈ W.net) (hn:l.length≤400):WOk c { W with net:=l }:=⟨h.pr,fun m hm=>h.net m (hl m hm),hn,h.r0,h.r1⟩
theorem WOd.tick (h:WOd c W) (hf:WOk d W) (hd:d<400000) (a:Int):WOd c (W.tick a):=by
 unfold Wl.tick
 split
 ·exact h
 ·next s hs=>
  have hn:1≤a∧a≤W.n:=by
   by_cases h1:1≤a∧a≤W.n
   ·exact h1
   ·rw [Z6t h1] at hs;cases hs
  obtain⟨i,rfl⟩:∃ i:Nat,a=i:=⟨a.toNat,by omega⟩
  rw [Z47 (by omega) hn.2] at hs
  have hF:=(hf.pr i s (by omega) hs).tick hd
  exact WOd.ps (h.put (by omega) (Z3r (by omega) hs) s.tick.1 hF.ok.d0 hF.ok.d1) rfl
theorem WOd.hear (h:WOd c W) (hf:WOk d W) (m:Ms) (hm:MayM m):WOd c (W.hear m):=by
 unfold Wl.hear
 split
 ·exact h
 ·next s hs=>
  have hn:1≤m.too∧m.too≤W.n:=by
   by_cases h1:1≤m.too∧m.too≤W.n
   ·exact h1
   ·rw [Z6t h1] at hs;cases hs
  obtain⟨i,hi⟩:∃ i:Nat,m.too=i:=⟨m.too.toNat,by omega⟩
  rw [hi] at hs hn ⊢
  rw [Z47 (by omega) hn.2] at hs
  have hF:=(hf.pr i s (by omega) hs).hear m hm
  exact WOd.ps (h.put (by omega) (Z3r (by omega) hs) (s.hear m).1 hF.ok.d0 hF.ok.d1) rfl
theorem WOd.mail (h:WOd c W) (hf:WOk d W) (fn k:Int):WOd c (W.mail fn k).1:=by
 unfold Wl.mail
 split
 ·exact h
 ·split
  ·exact h
  ·next m hm=>
   have b0:MayM m:=hf.net m (List.mem_of_getElem? hm)
   have h1:WOd c (if fn==5 then W else { W with net:=W.net.eraseIdx k.toNat }):=by
    split
    ·exact h
    ·exact h.ps rfl
   have a0:WOk d (if fn==5 then W else { W with net:=W.net.eraseIdx k.toNat }):=by
    split
    ·exact hf
    ·exact hf.net' (fun x hx=>List.mem_of_mem_eraseIdx hx) (Nat.le_trans (List.length_eraseIdx_le _ _) hf.n400)
   dsimp only
   split
   ·exact h1
   ·exact h1.hear a0 m b0
theorem Zgx (hi:1≤i) (hs:(Z0i W i).s=none):W.start i=({ W with ps:=W.ps.set (i-1) ⟨some (Nd.make i W.n ((Z0i W i).boot+1) (Z0i W i).dv),0,0,(Z0i W i).boot+1,(Z0i W i).dv⟩ },0):=by
 unfold Wl.start
 rw [Z22 W i hi]
 dsimp only
 rw [hs,show ((i:Int)-1).toNat=i-1 by omega]
 rfl
theorem Zgy (hi:1≤i) (hs:(Z0i W i).s=some s):W.start i=(W,9):=by unfold Wl.start;rw [Z22 W i hi];dsimp only;rw [hs];rfl
theorem WOk.start (h:WOk c W) (hd:WOd d W) (hdc:d<900000) (h3:3≤W.n) (h7:W.n≤7) (hlen:(W.ps.length:Int)=W.n) (hi:1≤i) (hn:(i:Int)≤W.n):WOk c (W.start i).1∧WOd (d+1) (W.start i).1:=by
 cases hs:(Z0i W i).s with
 | some s=>rw [Zgy hi hs];exact⟨h,hd.up (Nat.le_succ _)⟩
 | none=>
   rw [Zgx hi hs]
   have hb:=hd.b i hi
   have hv:=hd.d i hi
   have hF:=(Full.make (id:=(i:Int)) h3 h7 (by omega) hn (boot:=(Z0i W i).boot+1) (dv:=(Z0i W i).dv) (by omega) (by omega) hv.1 hv.2).up (Nat.zero_le c)
   have hp:=fun j hj=>Z9o W i ⟨some (Nd.make i W.n ((Z0i W i).boot+1) (Z0i W i).dv),0,0,(Z0i W i).boot+1,(Z0i W i).dv⟩ hi (by omega) j hj
   refine⟨⟨fun j s hj hs2=>?_,h.net,h.n400,h.r0,h.r1⟩,fun j hj=>?_,fun j hj=>?_,fun j hj=>?_⟩
   ·rw [hp j hj] at hs2
    split at hs2
    ·cases hs2;exact hF
    ·exact h.pr j s hj hs2
   ·dsimp only;rw [hp j hj];split
    ·exact⟨by show 0≤(Z0i W i).boot+1;omega,by show (Z0i W i).boot+1≤((d+1:Nat):Int);omega⟩
    ·have:=hd.b j hj;exact⟨this.1,by omega⟩
   ·dsimp only;rw [hp j hj];split
    ·exact hv
    ·exact hd.d j hj
   ·dsimp only;rw [hp j hj];split
    ·exact⟨Int.le_refl _,by show (0:Int)≤((d+1:Nat):Int);omega⟩
    ·have:=hd.l j hj;exact⟨this.1,by omega⟩
theorem WOk.crash (h:WOk c W) (hi:1≤i) (hl:i≤W.ps.length):WOk c { W with ps:=W.ps.modify (i-1) fun p=>{ p with s:=none } }:=by
 refine⟨fun j s hj hs=>?_,h.net,h.n400,h.r0,h.r1⟩
 rw [Z5h W i hi hl j hj] at hs
 split at hs
 ·cases hs
 ·exact h.pr j s hj hs
theorem WOd.crash (h:WOd c W) (hi:1≤i) (hl:i≤W.ps.length):WOd c { W with ps:=W.ps.modify (i-1) fun p=>{ p with s:=none } }:=by
 refine⟨fun j hj=>?_,fun j hj=>?_,fun j hj=>?_⟩
 ·rw [Z5h W i hi hl j hj];split
  ·exact h.b i hi
  ·exact h.b j hj
 ·rw [Z5h W i hi hl j hj];split
  ·exact h.d i hi
  ·exact h.d j hj
 ·rw [Z5h W i hi hl j hj];split
  ·exact h.l i hi
  ·exact h.l j hj
end
section
variable {own own':Nat→Nat} {w0 w w':World} {A A':WlAt} {W:Wl} {i c:Nat} {s:Nd}
def StpW (own:Nat→Nat) (w0 w:World) (A:WlAt) (c:Nat) (R:Wl × Int) (z:Int) (w':World):Prop:=
 z=R.2∧∃ own' A',WlO own' w0 w' A' R.1∧WOk (c+3) R.1∧WOd (c+3) R.1∧KeepW own own' w w'∧A'.wb=A.wb∧A'.nb=A.nb
theorem Z5j {w1 w2:World} (h:WlO own w0 w1 A W) (hf:WOk c W) (hd:WOd c W) (hb:Below w.heap.size w w1) (hb2:Below w1.heap.size w1 w2) {z:Int}:StpW own w0 w A c (W,z) z w2:=
 ⟨rfl,own,A,h.grow hb2,hf.up (by omega),hd.up (by omega), .below (hb.trans (hb2.mono hb.size)),rfl,rfl⟩
theorem Z6b (h:WlO own w0 w A W) (hf:WOk c W) (hd:WOd c W) (hc:c<398000) (fn a n o l:Int) (d:ByteArray) (h9:fn≠9) :
  Calls Tryz.prog 43 #[Z09 A.wb,Z8n fn a n o l d] w fun r w'=>∃ z,r=.returned (.int .i64 z)∧StpW own w0 w A c (W.step fn a n o l d) z w':=by
 by_cases h1:fn=1
 ·subst h1
  refine (Zdn h hf.r0 (by have:=hf.r1;omega) a n o l d).mono ?_
  rintro r w' ⟨rfl,h2,k2⟩
  exact⟨0,rfl,rfl,own,A,h2,⟨(hf.up (by omega)).pr,hf.net,hf.n400,by show 0≤W.real+1;have:=hf.r0;omega,by show W.real+1≤((c+3:Nat):Int);have:=hf.r1;omega⟩,(hd.up (by omega)).ps rfl,k2,rfl,rfl⟩
 by_cases hm:fn=3∨fn=4∨fn=5
 ·have e:W.step fn a n o l d=W.mail fn n:=by rcases hm with rfl | rfl | rfl<;>rfl
  rw [e]
  refine Zdo h fn hm a n o l d _ fun w1 h1 hb=>?_
  by_cases hn:0≤n∧n<(W.net.length:Int)
  ·obtain⟨k,rfl⟩:∃ k:Nat,n=k:=⟨n.toNat,by omega⟩
   have e0:(W.mail fn k).2=0:=by
    unfold Wl.mail
    rw [if_neg (by omega),Int.toNat_natCast,List.getElem?_eq_getElem (by omega)]
   refine (Zbn h1 hf hc fn a k o l d (by omega) hm).mono ?_
   rintro r w' ⟨own',A',rfl,h2,f2,k2,s2⟩
   exact⟨0,rfl,e0.symm,own',A',h2,f2.up (by omega),(hd.mail hf fn k).up (by omega),(KeepW.below hb).trans k2,s2.wb,s2.nb⟩
  ·have e0:W.mail fn n=(W,3):=by
    unfold Wl.mail
    by_cases h0:n<0
    ·rw [if_pos h0]
    ·rw [if_neg h0,List.getElem?_eq_none (by omega)]
   rw [e0]
   refine (Z8o h1 fn a n o l d hn).mono ?_
   rintro r w' ⟨rfl,a0⟩
   exact⟨3,rfl,Z5j h1 hf hd hb a0⟩
 by_cases ho:fn=2∨fn=6∨fn=7∨fn=8
 ·have e:W.step fn a n o l d=W.one fn a o l d:=by rcases ho with rfl | rfl | rfl | rfl<;>rfl
  rw [e]
  refine Zgt h fn ho a n o l d _ fun w1 hw1 hb=>?_
  by_cases ha:1≤a∧a≤W.n
  ·obtain⟨i,rfl⟩:∃ i:Nat,a=i:=⟨a.toNat,by omega⟩
   have hi:1≤i:=by omega
   have i0:=h.len
   have b0:i≤W.ps.length:=by omega
   have f0:=one_in hi ha.2
   by_cases h7:fn=7
   ·subst h7
    have e7:W.one 7 i o l d=W.start i:=by unfold Wl.one;rw [f0];rfl
    rw [e7]
    obtain⟨f2,d2⟩:=hf.start hd (by omega) h.n3 h.n7 i0 hi ha.2
    refine (Zdl hw1 hd (by omega) hi ha.2 n o l d).mono ?_
    rintro r w' ⟨own',A',rfl,h2,k2,e1,e2⟩
    exact⟨_,rfl,rfl,own',A',h2,f2.up (by omega),d2.up (by omega),(KeepW.below hb).trans k2,e1,e2⟩
   ·cases hs:(Z0i W i).s with
    | none=>
      have e0:W.one fn i o l d=(W,5):=by
       unfold Wl.one
       rw [f0,Z22 W i hi,hs]
       rcases ho with rfl | rfl | rfl | rfl<;>first | rfl | exact absurd rfl h7
      rw [e0]
      refine (Zgq hw1 fn (by simp;omega) hi ha.2 hs n o l d).mono ?_
      rintro r w' ⟨rfl,a0⟩
      exact⟨5,rfl,Z5j hw1 hf hd hb a0⟩
    | some s=>
      rcases ho with rfl | rfl | rfl | rfl
      ·have e0:W.one 2 i o l d=(W.tick i,0):=by unfold Wl.one;rw [f0,Z22 W i hi,hs];rfl
       rw [e0]
       refine (Zgr hw1 hf hc hi ha.2 hs n o l d).mono ?_
       rintro r w' ⟨own',A',rfl,h2,f2,k2,e1,e2⟩
       exact⟨0,rfl,rfl,own',A',h2,f2,(hd.tick hf (by omega) _).up (by omega),(KeepW.below hb).trans k2,e1,e2⟩
      ·have e0:W.one 6 i o l d=({ W with ps:=W.ps.modify (i-1) fun p=>{ p with s:=none } },0):=by unfold Wl.one;rw [f0,Z22 W i hi,hs,show ((i:Int)-1).toNat=i-1 by omega];rfl
       rw [e0]
       refine (Zdm hw1 hi ha.2 hs n o l d).mono ?_
       rintro r w' ⟨rfl,h2,k2⟩
       exact⟨0,rfl,rfl,own,A,h2,(hf.crash hi b0).up (by omega),(hd.crash hi b0).up (by omega),(KeepW.below hb).trans k2,rfl,rfl⟩
      ·exact absurd rfl h7
      ·have hl:=hd.l i hi
       have hF:=hf.pr i s hi hs
       have g0:=hF.cast o l d
       rw [one_cast hi ha.2 b0 hs ((h.pr i s hi hs).dv) o l d]
       have c0:i≤(W.put i (s.cast o l d).1).ps.length:=by show i≤(W.ps.modify _ _).length;rw [List.length_modify];exact b0
       refine (Zgs hw1 hf ⟨hl.1,by omega⟩ hi ha.2 hs n o l d).mono ?_
       rintro r w' ⟨own',A',rfl,h2,k2,e1,e2⟩
       refine⟨_,rfl,rfl,own',A',h2,((hf.put (d:=c) (Nat.le_refl _) hi hs g0).lose hi c0 _).up (by omega),((hd.up (show c≤c+3 by omega)).put hi b0 _ g0.ok.d0 g0.ok.d1).lose hi c0 ?_ ?_,(KeepW.below hb).trans k2,e1,e2⟩
       ·split<;>omega
       ·split<;>omega
  ·have e0:W.one fn a o l d=(W,8):=by
    unfold Wl.one
    have:W.is a=false:=by unfold Wl.is;rw [Bool.and_eq_false_iff,decide_eq_false_iff_not,decide_eq_false_iff_not];omega
    rw [this];rfl
   rw [e0]
   refine (Zk1 hw1 fn a n o l d ha).mono ?_
   rintro r w' ⟨rfl,a0⟩
   exact⟨8,rfl,Z5j hw1 hf hd hb a0⟩
 have e0:W.step fn a n o l d=(W,1):=by
  unfold Wl.step
  rw [if_neg (by simp;omega),if_neg (by simp;omega),if_neg (by simp;omega),if_neg (by simp;omega)]
 rw [e0]
 refine (Z6j h fn a n o l d (by omega)).mono ?_
 rintro r w' ⟨rfl,hb⟩
 exact⟨1,rfl,Z5j h hf hd (Below.refl _ _) hb⟩
end
end
section
open Go.RowKit
structure Lw where
 W:Wl
 firm:List (List Ent)
 now:List Int
 told:List Int
 saw:List (Ent × Int)
 views:List (Int × Int × Int)
 cast:List Ent
 boot:List Int
 view:List Int
 slack:List Int
 even:Bool
def Lw.started (L:Lw) (id:Nat):Lw:={ L with firm:=L.firm++[[]],now:=L.now.set id L.firm.length,told:=L.told.set id 0,slack:=L.slack.set id 0 }
def Lw.starts (L:Lw):Nat→Nat→Lw
 | 0,_=>L
 | k+1,id=>(L.started id).starts k (id+1)
def lw0 (n:Int):Lw:=⟨Wl.make n,[],Z3c,Z3c,[],[],[],Z3c,Z3c,Z3c,true⟩
def Lw.make (n:Int):Lw:=(lw0 n).starts n.toNat 1
def Lw.tell (L:Lw) (id:Nat) (e:Ent):Lw:=
 { L with saw:=if e.lev != 0 then L.saw++[(e,L.W.real)] else L.saw,
          firm:=if e.lev != 0&&e.ord==1 then L.firm.modify (L.now.getD id 0).toNat (fun l=>l++[e]) else L.firm,
          told:=L.told.set id (L.told.getD id 0+1) }
def Lw.tells (L:Lw) (id:Nat):Td→Lw
 | []=>L
 | t :: l=>(L.tell id t.2).tells id l
def Lw.seen (L:Lw) (v t:Int):Bool:=L.views.any fun x=>x.1==v&&x.2.1==t
def Lw.viewed (L:Lw) (s:Nd):Lw:=if !s.view.2.2 then L else if L.seen s.view.1 s.view.2.1 then L else { L with views:=L.views++[(s.view.1,s.view.2.1,L.W.real)] }
def Lw.look (L:Lw) (id:Nat):Lw:=
 match (Z0i L.W id).s with
 | none=>L
 | some s=>(L.tells id (s.td.drop (L.told.getD id 0).toNat)).viewed s
def Lw.looks (L:Lw):Nat→Nat→Lw
 | 0,_=>L
 | k+1,id=>(L.look id).looks k (id+1)
def Lw.slacks (L:Lw):Nat→Nat→Lw
 | 0,_=>L
 | k+1,id=>(match (Z0i L.W id).s with
   | none=>L
   | some _=>{ L with slack:=L.slack.set id (L.slack.getD id 0+1),even:=L.even&&decide (L.slack.getD id 0+1≤2) }).slacks k (id+1)
def Zl2 (d:ByteArray):ByteArray:=if 18<d.size then d.extract 0 18 else d
def Lw.casts (L:Lw) (a b:Int):Int:=((L.cast.filter fun e=>e.frm==a&&e.boot==b).length:Int)
def Lw.note (L:Lw) (fn a o l e:Int) (d:ByteArray) (up:Bool):Lw:=
 if fn==1 then L.slacks L.W.n.toNat 1
 else if fn==2&&up then { L with slack:=L.slack.set a.toNat 0 }
 else if fn==7&&e==0 then L.started a.toNat
 else if fn==8&&e==0 then (match L.W.node a with
  | none=>L
  | some s=>{ L with cast:=L.cast++[⟨a,s.boot,L.casts a s.boot+1,o,l,0,d⟩] })
 else L
def Lw.step (L:Lw) (fn a n o l:Int) (d:ByteArray):Lw × Int:=
 let r:=L.W.step fn a n o l (Zl2 d)
 ((({ L with W:=r.1 }:Lw).note fn a o l r.2 (Zl2 d) (L.W.node a).isSome).looks L.W.n.toNat 1,r.2)
def Lw.ticks (L:Lw):Nat→Nat→Lw
 | 0,_=>L
 | k+1,id=>(L.step 2 id 0 0 0 ByteArray.empty).1.ticks k (id+1)
def Lw.sends (L:Lw):Nat→Lw
 | 0=>L
 | k+1=>match L.W.net with
   | []=>L
   | _ :: _=>(L.step 3 0 0 0 0 ByteArray.empty).1.sends k
def Lw.beat (L:Lw):Lw:=(L.step 1 0 0 0 0 ByteArray.empty).1.ticks L.W.n.toNat 1
def Lw.round (L:Lw):Lw:=L.beat.sends 400
def Lw.rounds (L:Lw):Nat→Lw
 | 0=>L
 | k+1=>L.round.rounds k
end
section
open Go.RowKit
structure SlS where
 a:Option Addr
 n:Nat
 c:Nat
abbrev SlS.v (x:SlS):Value:=.slice x.a x.n x.c
def Zbs:Shp SlS:=⟨1,fun x=>[x.v],fun _=>rfl,by decide,fun x u hu=>by
 simp only [List.mem_cons,List.not_mem_nil,or_false] at hu
 subst hu;rfl⟩
def sawShp:Shp (Ent × Int):=⟨8,fun x=>x.1.cells++[.int .i64 x.2],fun _=>rfl,by decide,fun x u hu=>by
 simp only [Ent.cells,List.cons_append,List.nil_append,List.mem_cons,List.not_mem_nil,or_false] at hu
 rcases hu with rfl | rfl | rfl | rfl | rfl | rfl | rfl | rfl<;>rfl⟩
def Zkz:Shp (Int × Int × Int):=⟨3,fun x=>[.int .i64 x.1, .int .i64 x.2.1, .int .i64 x.2.2],fun _=>rfl,by decide,fun x u hu=>by
 simp only [List.mem_cons,List.not_mem_nil,or_false] at hu
 rcases hu with rfl | rfl | rfl<;>rfl⟩
structure LwAt where
 lb:Nat
 A:WlAt
 fv:Value
 fr:List SlS
 sv:Value
 vv:Value
 cv:Value
structure LwC (B:LwAt) (L:Lw) (cs:Array Value):Prop where
 sz:cs.size=47
 c0:cs[0]?=some (Z09 B.A.wb)
 c1:cs[1]?=some (.int .i64 L.W.n)
 c2:cs[2]?=some B.fv
 now:∀ j,j<8→cs[3+j]?=some (.int .i64 (L.now.getD j 0))
 told:∀ j,j<8→cs[11+j]?=some (.int .i64 (L.told.getD j 0))
 c19:cs[19]?=some B.sv
 c20:cs[20]?=some B.vv
 c21:cs[21]?=some B.cv
 boot:∀ j,j<8→cs[22+j]?=some (.int .i64 (L.boot.getD j 0))
 view:∀ j,j<8→cs[30+j]?=some (.int .i64 (L.view.getD j 0))
 slack:∀ j,j<8→cs[38+j]?=some (.int .i64 (L.slack.getD j 0))
 ev:cs[46]?=some (.bool L.even)
theorem Zbt {l:List Int} (hl:l.length=8) {i j:Nat} (hi:i<8) (v:Int):(l.set i v).getD j 0=if i=j then v else l.getD j 0:=by
 rw [List.getD_eq_getElem?_getD,List.getElem?_set,List.getD_eq_getElem?_getD]
 by_cases h:i=j
 ·subst h
  rw [if_pos rfl,if_pos rfl,if_pos (by omega)];rfl
 ·rw [if_neg h,if_neg h]
section
variable {B B':LwAt} {L L':Lw} {cs:Array Value} {o p:Nat} {v x:Value}
theorem Z2o (hn:o≠p) (h:cs[p]?=some x):(cs.setIfInBounds o v)[p]?=some x:=by rw [Array.getElem?_setIfInBounds_ne hn];exact h
theorem csEq (ho:o<cs.size):(cs.setIfInBounds o v)[o]?=some v:=by rw [Array.getElem?_setIfInBounds,if_pos rfl,if_pos ho]
theorem Zll {l:List Int} (hl:l.length=8) {i:Nat} (hi:i<8) {s:Nat} (hs:s+8≤cs.size) (z:Int) (h:∀ j,j<8→cs[s+j]?=some (.int .i64 (l.getD j 0))):∀ j,j<8→(cs.setIfInBounds (s+i) (.int .i64 z))[s+j]?=some (.int .i64 ((l.set i z).getD j 0)):=by
 intro j hj
 rw [Zbt hl hi]
 by_cases e:i=j
 ·subst e;rw [if_pos rfl];exact csEq (by omega)
 ·rw [if_neg e];exact Z2o (by omega) (h j hj)
theorem LwC.setNow (h:LwC B L cs) {i:Nat} (hi:i<8) (hl:L.now.length=8) (z:Int):LwC B { L with now:=L.now.set i z } (cs.setIfInBounds (3+i) (.int .i64 z)):=
 ⟨by rw [Array.size_setIfInBounds];exact h.sz,Z2o (by omega) h.c0,Z2o (by omega) h.c1,Z2o (by omega) h.c2,Zll hl hi (by rw [h.sz];omega) z h.now,fun j hj=>Z2o (by omega) (h.told j hj),Z2o (by omega) h.c19,Z2o (by omega) h.c20,Z2o (by omega) h.c21,
  fun j hj=>Z2o (by omega) (h.boot j hj),fun j hj=>Z2o (by omega) (h.view j hj),fun j hj=>Z2o (by omega) (h.slack j hj),Z2o (by omega) h.ev⟩
theorem LwC.setTold (h:LwC B L cs) {i:Nat} (hi:i<8) (hl:L.told.length=8) (z:Int):LwC B { L with told:=L.told.set i z } (cs.setIfInBounds (11+i) (.int .i64 z)):=
 ⟨by rw [Array.size_setIfInBounds];exact h.sz,Z2o (by omega) h.c0,Z2o (by omega) h.c1,Z2o (by omega) h.c2,fun j hj=>Z2o (by omega) (h.now j hj),Zll hl hi (by rw [h.sz];omega) z h.told,Z2o (by omega) h.c19,Z2o (by omega) h.c20,Z2o (by omega) h.c21,
  fun j hj=>Z2o (by omega) (h.boot j hj),fun j hj=>Z2o (by omega) (h.view j hj),fun j hj=>Z2o (by omega) (h.slack j hj),Z2o (by omega) h.ev⟩
theorem LwC.setBoot (h:LwC B L cs) {i:Nat} (hi:i<8) (hl:L.boot.length=8) (z:Int):LwC B { L with boot:=L.boot.set i z } (cs.setIfInBounds (22+i) (.int .i64 z)):=
 ⟨by rw [Array.size_setIfInBounds];exact h.sz,Z2o (by omega) h.c0,Z2o (by omega) h.c1,Z2o (by omega) h.c2,fun j hj=>Z2o (by omega) (h.now j hj),fun j hj=>Z2o (by omega) (h.told j hj),Z2o (by omega) h.c19,Z2o (by omega) h.c20,Z2o (by omega) h.c21,
  Zll hl hi (by rw [h.sz];omega) z h.boot,fun j hj=>Z2o (by omega) (h.view j hj),fun j hj=>Z2o (by omega) (h.slack j hj),Z2o (by omega) h.ev⟩
theorem LwC.setView (h:LwC B L cs) {i:Nat} (hi:i<8) (hl:L.view.length=8) (z:Int):LwC B { L with view:=L.view.set i z } (cs.setIfInBounds (30+i) (.int .i64 z)):=
 ⟨by rw [Array.size_setIfInBounds];exact h.sz,Z2o (by omega) h.c0,Z2o (by omega) h.c1,Z2o (by omega) h.c2,fun j hj=>Z2o (by omega) (h.now j hj),fun j hj=>Z2o (by omega) (h.told j hj),Z2o (by omega) h.c19,Z2o (by omega) h.c20,Z2o (by omega) h.c21,
  fun j hj=>Z2o (by omega) (h.boot j hj),Zll hl hi (by rw [h.sz];omega) z h.view,fun j hj=>Z2o (by omega) (h.slack j hj),Z2o (by omega) h.ev⟩
theorem LwC.setSlack (h:LwC B L cs) {i:Nat} (hi:i<8) (hl:L.slack.length=8) (z:Int):LwC B { L with slack:=L.slack.set i z } (cs.setIfInBounds (38+i) (.int .i64 z)):=
 ⟨by rw [Array.size_setIfInBounds];exact h.sz,Z2o (by omega) h.c0,Z2o (by omega) h.c1,Z2o (by omega) h.c2,fun j hj=>Z2o (by omega) (h.now j hj),fun j hj=>Z2o (by omega) (h.told j hj),Z2o (by omega) h.c19,Z2o (by omega) h.c20,Z2o (by omega) h.c21,
  fun j hj=>Z2o (by omega) (h.boot j hj),fun j hj=>Z2o (by omega) (h.view j hj),Zll hl hi (by rw [h.sz];omega) z h.slack,Z2o (by omega) h.ev⟩
theorem LwC.setEven (h:LwC B L cs) (z:Bool):LwC B { L with even:=z } (cs.setIfInBounds 46 (.bool z)):=
 ⟨by rw [Array.size_setIfInBounds];exact h.sz,Z2o (by omega) h.c0,Z2o (by omega) h.c1,Z2o (by omega) h.c2,fun j hj=>Z2o (by omega) (h.now j hj),fun j hj=>Z2o (by omega) (h.told j hj),Z2o (by omega) h.c19,Z2o (by omega) h.c20,Z2o (by omega) h.c21,
  fun j hj=>Z2o (by omega) (h.boot j hj),fun j hj=>Z2o (by omega) (h.view j hj),fun j hj=>Z2o (by omega) (h.slack j hj),csEq (by rw [h.sz];omega)⟩
theorem LwC.setFv (h:LwC B L cs) (z:Value) (l:List SlS) (f:List (List Ent)):LwC { B with fv:=z,fr:=l } { L with firm:=f } (cs.setIfInBounds 2 z):=
 ⟨by rw [Array.size_setIfInBounds];exact h.sz,Z2o (by omega) h.c0,Z2o (by omega) h.c1,csEq (by rw [h.sz];omega),fun j hj=>Z2o (by omega) (h.now j hj),fun j hj=>Z2o (by omega) (h.told j hj),Z2o (by omega) h.c19,Z2o (by omega) h.c20,Z2o (by omega) h.c21,
  fun j hj=>Z2o (by omega) (h.boot j hj),fun j hj=>Z2o (by omega) (h.view j hj),fun j hj=>Z2o (by omega) (h.slack j hj),Z2o (by omega) h.ev⟩
theorem LwC.setVv (h:LwC B L cs) (z:Value) (l:List (Int × Int × Int)):LwC { B with vv:=z } { L with views:=l } (cs.setIfInBounds 20 z):=
 ⟨by rw [Array.size_setIfInBounds];exact h.sz,Z2o (by omega) h.c0,Z2o (by omega) h.c1,Z2o (by omega) h.c2,fun j hj=>Z2o (by omega) (h.now j hj),fun j hj=>Z2o (by omega) (h.told j hj),Z2o (by omega) h.c19,csEq (by rw [h.sz];omega),Z2o (by omega) h.c21,
  fun j hj=>Z2o (by omega) (h.boot j hj),fun j hj=>Z2o (by omega) (h.view j hj),fun j hj=>Z2o (by omega) (h.slack j hj),Z2o (by omega) h.ev⟩
theorem LwC.setW (h:LwC B L cs) {A':WlAt} {W':Wl} (ha:A'.wb=B.A.wb) (hn:W'.n=L.W.n):LwC { B with A:=A' } { L with W:=W' } cs:=
 ⟨h.sz,by show cs[0]?=some (Z09 A'.wb);rw [ha];exact h.c0,by show cs[1]?=some (.int .i64 W'.n);rw [hn];exact h.c1,h.c2,h.now,h.told,h.c19,h.c20,h.c21,h.boot,h.view,h.slack,h.ev⟩
end
structure LwR (own:Nat→Nat) (w:World) (B:LwAt) (L:Lw):Prop where
 ob:own B.lb=4
 blk:∃ cs,w.heap[B.lb]?=some (.cells cs 80 (0,0))∧LwC B L cs
 fro:ownG Zbs w 0 35 B.fv B.fr∧∀ k,B.fv.ownBlock=some k→own k=5
 frn:B.fr.length=L.firm.length
 fri:∀ j x l,B.fr[j]?=some x→L.firm[j]?=some l→ownE w 0 134 x.v l∧∀ k,x.v.ownBlock=some k→own k=1024+j
 saw:ownG sawShp w 0 211 B.sv L.saw∧∀ k,B.sv.ownBlock=some k→own k=6
 vws:ownG Zkz w 0 158 B.vv L.views∧∀ k,B.vv.ownBlock=some k→own k=7
 cst:ownE w 0 134 B.cv L.cast∧∀ k,B.cv.ownBlock=some k→own k=8
 len:L.now.length=8∧L.told.length=8∧L.boot.length=8∧L.view.length=8∧L.slack.length=8
structure LwO (own:Nat→Nat) (w0 w:World) (B:LwAt) (L:Lw):Prop where
 wl:WlO own w0 w B.A L.W
 r:LwR own w B L
abbrev JL:Nat→Prop:=fun o=>(4≤o∧o≤15)∨1024≤o
section
variable {own own':Nat→Nat} {w0 w w':World} {A A':WlAt} {B B':LwAt} {L L':Lw} {W W':Wl} {J:Nat→Prop}
theorem Zbu {w w':World} {base:Nat} {T:TypeId} {v:Value} {l:List Ent} (h:ownE w base T v l) (hb:∀ k,v.ownBlock=some k→w'.heap[k]?=w.heap[k]?):ownE w' base T v l:=by
 obtain⟨h1,h2⟩:=h
 refine⟨h1,h2.imp id ?_⟩
 rintro⟨g,cap,cur,rfl,e2,e3,e4,e5,e6,e7⟩
 exact⟨g,cap,cur,rfl,e2,by rw [hb g rfl];exact e3,e4,e5,e6,e7⟩
theorem LwR.keep (h:LwR own w B L) (k:∀ c,c<w.heap.size→(own c=4∨own c=5∨own c=6∨own c=7∨own c=8∨1024≤own c)→own' c=own c∧w'.heap[c]?=w.heap[c]?):LwR own' w' B L:=by
 obtain⟨h1,⟨cs,h2,e0⟩,⟨h3,a0⟩,h4,h5,⟨h6,b0⟩,⟨h7,c0⟩,⟨h8,d0⟩,h9⟩:=h
 obtain⟨k1,k2⟩:=k _ (Z04 h2) (.inl h1)
 refine⟨k1.trans h1,⟨cs,by rw [k2];exact h2,e0⟩,⟨h3.same _ fun c hc=>(k c (h3.lt _ c hc).2 (by have:=a0 c hc;omega)).2,fun c hc=>(k c (h3.lt _ c hc).2 (by have:=a0 c hc;omega)).1.trans (a0 c hc)⟩,h4,fun j x l hx hl=>?_,
  ⟨h6.same _ fun c hc=>(k c (h6.lt _ c hc).2 (by have:=b0 c hc;omega)).2,fun c hc=>(k c (h6.lt _ c hc).2 (by have:=b0 c hc;omega)).1.trans (b0 c hc)⟩,
  ⟨h7.same _ fun c hc=>(k c (h7.lt _ c hc).2 (by have:=c0 c hc;omega)).2,fun c hc=>(k c (h7.lt _ c hc).2 (by have:=c0 c hc;omega)).1.trans (c0 c hc)⟩,
  ⟨Zbu h8 fun c hc=>(k c (h8.lt c hc).2 (by have:=d0 c hc;omega)).2,fun c hc=>(k c (h8.lt c hc).2 (by have:=d0 c hc;omega)).1.trans (d0 c hc)⟩,h9⟩
 obtain⟨i1,i2⟩:=h5 j x l hx hl
 exact⟨Zbu i1 fun c hc=>(k c (i1.lt c hc).2 (by have:=i2 c hc;omega)).2,fun c hc=>(k c (i1.lt c hc).2 (by have:=i2 c hc;omega)).1.trans (i2 c hc)⟩
theorem LwR.keepW (h:LwR own w B L) (k:KeepW own own' w w'):LwR own' w' B L:=h.keep fun c hc ho=>k.keep c hc (by unfold JW;omega)
theorem LwR.setW (h:LwR own w B L) (ha:A'.wb=B.A.wb) (hn:W'.n=L.W.n):LwR own w { B with A:=A' } { L with W:=W' }:=by
 obtain⟨h1,⟨cs,h2,h2'⟩,h3,h4,h5,h6,h7,h8,h9⟩:=h
 exact⟨h1,⟨cs,h2,h2'.setW ha hn⟩,h3,h4,h5,h6,h7,h8,h9⟩
theorem WlO.far (h:WlO own w0 w A W) (t:Turn J own own' w w') (hJ:∀ o,J o→JL o):WlO own' w0 w' A W:=by
 have n0:∀ o,o≤3→¬ J o:=fun o ho hj=>by have:=hJ o hj;unfold JL at this;omega
 have ho:own' A.wb=1:=(t.old _ (Z04 h.blk)).trans h.ob
 have hb:=Z0g h.blk t.chg (by rw [h.ob];exact n0 1 (by omega))
 exact⟨fun c hc=>(t.old c (Nat.lt_of_lt_of_le hc h.bel.size)).trans (h.low c hc),h.bel' t (n0 0 (by omega)),h.m0,t.new,ho,hb,h.n3,h.n7,h.len,fun i s h1 hs=>(h.pr i s h1 hs).turn h1 (PrO.lt7 h.n7 h.len h1 hs) t (fun o ho=>by
   have hl:=PrO.lt7 h.n7 h.len h1 hs
   have:=hJ o ho
   unfold JL at this
   unfold KI
   omega) rfl rfl rfl rfl ho hb,h.nt.turn t (n0 0 (by omega)) (n0 2 (by omega)) (n0 3 (by omega))⟩
theorem LwO.grow (h:LwO own w0 w B L) (hb:Below w.heap.size w w'):LwO own w0 w' B L:=⟨h.wl.grow hb,h.r.keepW (.below hb)⟩
end
end
section
open Go.RowKit
structure LwI (c m:Nat) (L:Lw):Prop where
 ln:L.now.length=8
 lt:L.told.length=8
 lb:L.boot.length=8
 lv:L.view.length=8
 ls:L.slack.length=8
 now:∀ j:Nat,1≤j→(j:Int)≤L.W.n→0≤L.now.getD j 0∧L.now.getD j 0<L.firm.length
 told:∀ j:Nat,0≤L.told.getD j 0
 slack:∀ j:Nat,0≤L.slack.getD j 0∧L.slack.getD j 0≤c
 fl:L.firm.length≤c
 il:∀ l ∈ L.firm,l.length≤m
 sl:L.saw.length≤m
 vl:L.views.length≤m
 cl:L.cast.length≤c
section
variable {c d m k:Nat} {L:Lw}
theorem LwI.up (h:LwI c m L) (hd:c≤d) (hm:m≤k):LwI d k L:=
 ⟨h.ln,h.lt,h.lb,h.lv,h.ls,h.now,h.told,fun j=>⟨(h.slack j).1,by have:=(h.slack j).2;omega⟩,Nat.le_trans h.fl hd,fun l hl=>Nat.le_trans (h.il l hl) hm,Nat.le_trans h.sl hm,Nat.le_trans h.vl hm,Nat.le_trans h.cl hd⟩
theorem LwI.setW (h:LwI c m L) {W':Wl} (hn:W'.n=L.W.n):LwI c m { L with W:=W' }:=
 ⟨h.ln,h.lt,h.lb,h.lv,h.ls,fun j h1 h2=>h.now j h1 (by rw [← hn];exact h2),h.told,h.slack,h.fl,h.il,h.sl,h.vl,h.cl⟩
theorem Z4u {l:List Int} {i j:Nat} {v b:Int} (hv:v≤b) (h:∀ j,l.getD j 0≤b):(l.set i v).getD j 0≤b:=by
 rw [List.getD_eq_getElem?_getD,List.getElem?_set]
 by_cases e:i=j
 ·rw [if_pos e]
  by_cases hl:i<l.length
  ·rw [if_pos hl];exact hv
  ·rw [if_neg hl]
   have:=h j
   rw [List.getD_eq_getElem?_getD,List.getElem?_eq_none (by omega)] at this
   exact this
 ·rw [if_neg e,← List.getD_eq_getElem?_getD];exact h j
theorem Z2w {l:List Int} {i j:Nat} {v b:Int} (hv:b≤v) (h:∀ j,b≤l.getD j 0):b≤(l.set i v).getD j 0:=by
 rw [List.getD_eq_getElem?_getD,List.getElem?_set]
 by_cases e:i=j
 ·rw [if_pos e]
  by_cases hl:i<l.length
  ·rw [if_pos hl];exact hv
  ·rw [if_neg hl]
   have:=h j
   rw [List.getD_eq_getElem?_getD,List.getElem?_eq_none (by omega)] at this
   exact this
 ·rw [if_neg e,← List.getD_eq_getElem?_getD];exact h j
theorem LwI.started (h:LwI c m L) (id:Nat) (hi:id<8):LwI (c+1) m (L.started id):=by
 unfold Lw.started
 refine⟨by rw [List.length_set];exact h.ln,by rw [List.length_set];exact h.lt,h.lb,h.lv,by rw [List.length_set];exact h.ls,fun j h1 h2=>?_,fun j=>Z2w (Int.le_refl _) h.told,fun j=>⟨Z2w (Int.le_refl _) fun j=>(h.slack j).1,Z4u (by omega) fun j=>by have:=(h.slack j).2;omega⟩,
  by show (L.firm++[[]]).length≤c+1;rw [List.length_append];have:=h.fl;simp;omega,fun l hl=>?_,h.sl,h.vl,Nat.le_succ_of_le h.cl⟩
 ·show 0≤(L.now.set id _).getD j 0∧(L.now.set id _).getD j 0<((L.firm++[[]]).length:Int)
  rw [Zbt h.ln hi,List.length_append]
  rw [List.length_singleton]
  by_cases e:id=j
  ·rw [if_pos e];omega
  ·rw [if_neg e]
   have:=h.now j h1 h2
   omega
 ·rcases List.mem_append.1 hl with h1 | h1
  ·exact h.il l h1
  ·rw [List.mem_singleton.1 h1];exact Nat.zero_le _
theorem LwI.tell (h:LwI c m L) (id:Nat) (e:Ent):LwI c (m+1) (L.tell id e):=by
 unfold Lw.tell
 refine⟨h.ln,by rw [List.length_set];exact h.lt,h.lb,h.lv,h.ls,fun j h1 h2=>?_,fun j=>Z2w (by have:=h.told id;omega) h.told,h.slack,?_,fun l hl=>?_,?_,Nat.le_succ_of_le h.vl,h.cl⟩
 ·have:=h.now j h1 h2
  dsimp only
  split
  ·rw [List.length_modify];exact this
  ·exact this
 ·dsimp only
  split
  ·rw [List.length_modify];exact h.fl
  ·exact h.fl
 ·dsimp only at hl
  split at hl
  ·obtain⟨i,hi,rfl⟩:=List.getElem_of_mem hl
   rw [List.getElem_modify]
   rw [List.length_modify] at hi
   have:=h.il _ (List.getElem_mem hi)
   split
   ·rw [List.length_append,List.length_singleton];omega
   ·omega
  ·exact Nat.le_succ_of_le (h.il l hl)
 ·dsimp only
  have:=h.sl
  split
  ·rw [List.length_append,List.length_singleton];omega
  ·omega
theorem LwI.tells (id:Nat):∀ (l:Td) {m:Nat} {L:Lw},LwI c m L→LwI c (m+l.length) (L.tells id l)
 | [],_,_,h=>h
 | t :: l,m,L,h=>by
   have:=LwI.tells id l (h.tell id t.2)
   rw [List.length_cons,show m+(l.length+1)=m+1+l.length by omega]
   exact this
theorem LwI.viewed (h:LwI c m L) (s:Nd):LwI c (m+1) (L.viewed s):=by
 unfold Lw.viewed
 have h1:=h.up (Nat.le_refl c) (Nat.le_succ m)
 split
 ·exact h1
 ·split
  ·exact h1
  ·exact⟨h.ln,h.lt,h.lb,h.lv,h.ls,h.now,h.told,h.slack,h.fl,h1.il,h1.sl,by show (L.views++[_]).length≤m+1;rw [List.length_append,List.length_singleton];have:=h.vl;omega,h.cl⟩
theorem Zk4 (id:Nat):∀ (l:Td) (L:Lw),(L.tells id l).W=L.W
 | [],_=>rfl
 | t :: l,L=>Zk4 id l (L.tell id t.2)
theorem viewed_W (L:Lw) (s:Nd):(L.viewed s).W=L.W:=by
 unfold Lw.viewed;split
 ·rfl
 ·split<;>rfl
theorem look_W (L:Lw) (id:Nat):(L.look id).W=L.W:=by
 unfold Lw.look;split
 ·rfl
 ·rw [viewed_W,Zk4]
theorem Zl3:∀ (k id:Nat) (L:Lw),(L.looks k id).W=L.W
 | 0,_,_=>rfl
 | k+1,id,L=>by show ((L.look id).looks k (id+1)).W=L.W;rw [Zl3,look_W]
theorem LwI.look (h:LwI c m L) {C:Nat} (hf:WOk C L.W) (id:Nat) (h1:1≤id):LwI c (m+60*C+1) (L.look id):=by
 unfold Lw.look
 split
 ·exact h.up (Nat.le_refl _) (by omega)
 ·next s hs=>
  have ht:=(hf.pr id s h1 hs).ok.tdl
  refine ((LwI.tells id _ h).viewed s).up (Nat.le_refl _) ?_
  rw [List.length_drop];omega
theorem LwI.looks {C:Nat}:∀ (k id:Nat) {m:Nat} {L:Lw},LwI c m L→WOk C L.W→1≤id→LwI c (m+k*(60*C+1)) (L.looks k id)
 | 0,_,_,_,h,_,_=>by rw [Nat.zero_mul];exact h
 | k+1,id,m,L,h,hf,h1=>by
   have:=LwI.looks k (id+1) (h.look hf id h1) (by rw [look_W];exact hf) (by omega)
   rw [show m+(k+1)*(60*C+1)=m+60*C+1+k*(60*C+1) by rw [Nat.add_mul];omega]
   exact this
theorem Zkp:∀ (k id:Nat) (L:Lw),L.looks (k+1) id=(L.looks k id).look (id+k)
 | 0,id,L=>by show (L.look id)=L.look (id+0);rfl
 | k+1,id,L=>by
   show (L.look id).looks (k+1) (id+1)=((L.look id).looks k (id+1)).look (id+(k+1))
   rw [Zkp k (id+1) (L.look id),show id+1+k=id+(k+1) by omega]
theorem Z7r:∀ (k id:Nat) (L:Lw),L.starts (k+1) id=(L.starts k id).started (id+k)
 | 0,id,L=>by show (L.started id)=L.started (id+0);rfl
 | k+1,id,L=>by
   show (L.started id).starts (k+1) (id+1)=((L.started id).starts k (id+1)).started (id+(k+1))
   rw [Z7r k (id+1) (L.started id),show id+1+k=id+(k+1) by omega]
theorem Zki:∀ (k id:Nat) (L:Lw),L.ticks (k+1) id=((L.ticks k id).step 2 (id+k:Nat) 0 0 0 ByteArray.empty).1
 | 0,id,L=>by show (L.step 2 id 0 0 0 ByteArray.empty).1=(L.step 2 (id+0:Nat) 0 0 0 ByteArray.empty).1;rfl
 | k+1,id,L=>by
   show (L.step 2 id 0 0 0 ByteArray.empty).1.ticks (k+1) (id+1)=(((L.step 2 id 0 0 0 ByteArray.empty).1.ticks k (id+1)).step 2 (id+(k+1):Nat) 0 0 0 ByteArray.empty).1
   rw [Zki k (id+1),show id+1+k=id+(k+1) by omega]
theorem Zkg:∀ (k:Nat) (L:Lw),L.rounds (k+1)=(L.rounds k).round
 | 0,_=>rfl
 | k+1,L=>Zkg k L.round
theorem LwI.slacks:∀ (k id:Nat) {c m:Nat} {L:Lw},LwI c m L→LwI (c+k) m (L.slacks k id)
 | 0,_,_,_,_,h=>h
 | k+1,id,c,m,L,h=>by
   unfold Lw.slacks
   rw [show c+(k+1)=c+1+k by omega]
   refine LwI.slacks k (id+1) ?_
   split
   ·exact h.up (Nat.le_succ _) (Nat.le_refl _)
   ·exact⟨h.ln,h.lt,h.lb,h.lv,by rw [List.length_set];exact h.ls,h.now,h.told,fun j=>⟨Z2w (by have:=(h.slack id).1;omega) fun j=>(h.slack j).1,Z4u (by have:=(h.slack id).2;omega) fun j=>by have:=(h.slack j).2;omega⟩,Nat.le_succ_of_le h.fl,h.il,h.sl,h.vl,Nat.le_succ_of_le h.cl⟩
theorem Zf1:∀ (k id:Nat) (L:Lw),(L.slacks k id).W=L.W
 | 0,_,_=>rfl
 | k+1,id,L=>by
   unfold Lw.slacks
   rw [Zf1 k]
   split<;>rfl
def Z6k (fn:Int):Nat:=if fn=1 then 7 else if fn=2 then 3 else 1
theorem Zgz (fn:Int):1≤Z6k fn:=by
 unfold Z6k
 split
 ·omega
 ·split<;>omega
theorem LwI.note (h:LwI c m L) (h7:L.W.n≤7) (fn a o l e:Int) (d:ByteArray) (up:Bool) (ha:fn=7→e=0→0≤a∧a<8):LwI (c+Z6k fn) m (L.note fn a o l e d up):=by
 have h1:=Zgz fn
 have hu:=h.up (show c≤c+Z6k fn by omega) (Nat.le_refl m)
 unfold Lw.note
 split
 ·next e1=>
  have e1:fn=1:=by simpa using e1
  have:Z6k fn=7:=by unfold Z6k;rw [if_pos e1]
  rw [this]
  exact (LwI.slacks _ 1 h).up (by omega) (Nat.le_refl _)
 ·split
  ·exact⟨hu.ln,hu.lt,hu.lb,hu.lv,by rw [List.length_set];exact hu.ls,hu.now,hu.told,fun j=>⟨Z2w (Int.le_refl _) fun j=>(hu.slack j).1,Z4u (by omega) fun j=>(hu.slack j).2⟩,hu.fl,hu.il,hu.sl,hu.vl,hu.cl⟩
  ·split
   ·next e7=>
    have e7:fn=7∧e=0:=by simpa using e7
    have:=ha e7.1 e7.2
    exact (h.started a.toNat (by omega)).up (by omega) (Nat.le_refl _)
   ·split
    ·split
     ·exact hu
     ·exact⟨hu.ln,hu.lt,hu.lb,hu.lv,hu.ls,hu.now,hu.told,hu.slack,hu.fl,hu.il,hu.sl,hu.vl,by show (L.cast++[_]).length≤c+Z6k fn;rw [List.length_append,List.length_singleton];have:=h.cl;omega⟩
    ·exact hu
theorem note_W (L:Lw) (fn a o l e:Int) (d:ByteArray) (up:Bool):(L.note fn a o l e d up).W=L.W:=by
 unfold Lw.note
 split
 ·exact Zf1 ..
 ·split
  ·rfl
  ·split
   ·rfl
   ·split
    ·split<;>rfl
    ·rfl
theorem Zlm (L:Lw) (fn a n o l:Int) (d:ByteArray):(L.step fn a n o l d).1.W=(L.W.step fn a n o l (Zl2 d)).1:=by
 unfold Lw.step
 dsimp only
 rw [Zl3,note_W]
theorem LwI.step (h:LwI c m L) (h7:L.W.n≤7) (fn a n o l:Int) (d:ByteArray) (hn:(L.W.step fn a n o l (Zl2 d)).1.n=L.W.n) (ha:fn=7→(L.W.step fn a n o l (Zl2 d)).2=0→0≤a∧a<8) {C:Nat} (hf:WOk C (L.W.step fn a n o l (Zl2 d)).1) :
  LwI (c+Z6k fn) (m+7*(60*C+1)) (L.step fn a n o l d).1:=by
 unfold Lw.step
 dsimp only
 have h1:=(h.setW hn).note (by show (L.W.step fn a n o l (Zl2 d)).1.n≤7;rw [hn];exact h7) fn a o l (L.W.step fn a n o l (Zl2 d)).2 (Zl2 d) (L.W.node a).isSome ha
 refine (LwI.looks (C:=C) L.W.n.toNat 1 h1 (by rw [note_W];exact hf) (Nat.le_refl 1)).up (Nat.le_refl _) ?_
 have:L.W.n.toNat≤7:=by omega
 exact Nat.add_le_add_left (Nat.mul_le_mul_right _ this) m
end
end
section
open Go.RowKit
section
variable {α:Type} (S:Shp α) {own own':Nat→Nat} {w wa w':World} {T:TypeId} {v:Value} {l:List α} {lab g cap:Nat} {J:Nat→Prop}
def GL (own:Nat→Nat) (w:World) (T:TypeId) (v:Value) (l:List α) (lab:Nat):Prop:=ownG S w 0 T v l∧∀ k,v.ownBlock=some k→own k=lab
theorem GL.turn (h:GL S own w T v l lab) (t:Turn J own own' w w') (hn:¬ J lab):GL S own' w' T v l lab:=
 ⟨h.1.chg S t.chg fun k hk=>by show ¬ J (own k);rw [h.2 k hk];exact hn,fun k hk=>(t.old k (h.1.lt S k hk).2).trans (h.2 k hk)⟩
theorem GL.app (h:GL S own w T v l lab) {x:α} (hb:Below w.heap.size w wa) (ho:w'.ownsRow 0 T S.size (.slice (some ⟨g,0,none⟩) (l.length+1) cap) (l.length+1) (Z1h S l++S.cells x)) (hg:wa.grownBy w' v.ownBlock)
  (hat:v.ownBlock=some g∨g=wa.heap.size) (hl:g<w'.heap.size) :
  GL S (Z5q own w.heap.size w'.heap.size lab) w' T (.slice (some ⟨g,0,none⟩) (l.length+1) cap) (l++[x]) lab∧Chg (fun c=>own c=lab) w w':=by
 refine⟨⟨?_,fun k hk=>?_⟩,Z10 (.of_below hb) hg fun k hk=>.inl (h.2 k hk)⟩
 ·unfold ownG
  rw [List.length_append,List.length_singleton,Z1u]
  exact ho
 ·have hk:some g=some k:=hk
  injection hk with hk
  rw [← hk]
  rcases hat with e | e
  ·rw [Z3k (h.1.lt S g e).2];exact h.2 g e
  ·exact Z20 (by have:=hb.size;rw [e];omega) hl
end
section
variable {own own':Nat→Nat} {w wa w':World} {T:TypeId} {v:Value} {l:List Ent} {lab g cap:Nat} {J:Nat→Prop}
def EL (own:Nat→Nat) (w:World) (T:TypeId) (v:Value) (l:List Ent) (lab:Nat):Prop:=ownE w 0 T v l∧∀ k,v.ownBlock=some k→own k=lab
theorem EL.turn (h:EL own w T v l lab) (t:Turn J own own' w w') (hn:¬ J lab):EL own' w' T v l lab:=
 ⟨h.1.chg t.chg fun k hk=>by show ¬ J (own k);rw [h.2 k hk];exact hn,fun k hk=>(t.old k (h.1.lt k hk).2).trans (h.2 k hk)⟩
theorem EL.app (h:EL own w T v l lab) {x:Ent} (hb:Below w.heap.size w wa) (ho:w'.ownsRow 0 T 7 (.slice (some ⟨g,0,none⟩) (l.length+1) cap) (l.length+1) (Z3i l++x.cells)) (hg:wa.grownBy w' v.ownBlock)
  (hat:v.ownBlock=some g∨g=wa.heap.size) (hl:g<w'.heap.size) :
  EL (Z5q own w.heap.size w'.heap.size lab) w' T (.slice (some ⟨g,0,none⟩) (l.length+1) cap) (l++[x]) lab∧Chg (fun c=>own c=lab) w w':=by
 refine⟨⟨?_,fun k hk=>?_⟩,Z10 (.of_below hb) hg fun k hk=>.inl (h.2 k hk)⟩
 ·unfold ownE
  rw [List.length_append,List.length_singleton,Z39]
  exact ho
 ·have hk:some g=some k:=hk
  injection hk with hk
  rw [← hk]
  rcases hat with e | e
  ·rw [Z3k (h.1.lt g e).2];exact h.2 g e
  ·exact Z20 (by have:=hb.size;rw [e];omega) hl
end
section
variable {own own':Nat→Nat} {w0 w wa w':World} {B B':LwAt} {L L':Lw} {J:Nat→Prop} {g cap o:Nat} {v:Value} {cs:Array Value}
theorem LwO.wf (h:LwO own w0 w B L):∀ c,w.heap.size≤c→own c=0:=h.wl.wf
theorem LwO.law (h:LwO own w0 w B L) (t:Turn J own own' w w') (hJ:∀ o,J o→JL o) (hr:LwR own' w' B' L') (hA:B'.A=B.A) (hW:L'.W=L.W):LwO own' w0 w' B' L'∧Keeps own own' w w':=
 ⟨⟨by rw [hA,hW];exact h.wl.far t hJ,hr⟩,Z68 t fun h0=>by have:=hJ 0 h0;unfold JL at this;omega⟩
theorem LwO.set4 (h:LwO own w0 w B L) (L':Lw) (hW:L'.W=L.W) (hf:L'.firm=L.firm) (hs:L'.saw=L.saw) (hv:L'.views=L.views) (hc:L'.cast=L.cast) (hl:L'.now.length=8∧L'.told.length=8∧L'.boot.length=8∧L'.view.length=8∧L'.slack.length=8)
  (hC:∀ cs,LwC B L cs→LwC B L' (cs.setIfInBounds o v)):LwO own w0 (w.setCell ⟨B.lb,o,none⟩ v) B L'∧Keeps own own w (w.setCell ⟨B.lb,o,none⟩ v):=by
 obtain⟨h1,⟨cs,h2,a0⟩,h3,h4,h5,h6,h7,h8,h9⟩:=h.r
 have t:Turn (fun o=>o=4) own own w (w.setCell ⟨B.lb,o,none⟩ v):=.same (Z06 (Chg.refl _ _) h1) h.wf
 refine h.law t (fun o ho=>by unfold JL;omega) ?_ rfl hW
 exact⟨h1,⟨_,Z0d h2,hC cs a0⟩,GL.turn _ h3 t (by omega),by rw [hf];exact h4,fun j x l hx hl'=>EL.turn (h5 j x l hx (by rw [← hf];exact hl')) t (by omega),by rw [hs];exact GL.turn _ h6 t (by omega),by rw [hv];exact GL.turn _ h7 t (by omega),by rw [hc];exact EL.turn h8 t (by omega),hl⟩
theorem LwO.turn2 (h:LwO own w0 w B L) {lab:Nat} (hlab:JL lab) (h4:lab≠4) (ch:Chg (fun c=>own c=lab) w w') :
  Turn (fun o=>o=4∨o=lab) own (Z5q own w.heap.size w'.heap.size lab) w (w'.setCell ⟨B.lb,o,none⟩ v):=by
 have h1:Turn (fun o=>o=4∨o=lab) own (Z5q own w.heap.size (w'.setCell ⟨B.lb,o,none⟩ v).heap.size lab) w (w'.setCell ⟨B.lb,o,none⟩ v):=
  Turn.extJ lab (Z06 (ch.mono fun _ _ hk=>.inr hk) (.inl h.r.ob))
 rw [World.size_setCell] at h1
 exact h1
theorem LwO.at4 (h:LwO own w0 w B L) {lab:Nat} (h4:lab≠4) (ch:Chg (fun c=>own c=lab) w w'):∃ cs,w'.heap[B.lb]?=some (.cells cs 80 (0,0))∧LwC B L cs:=by
 obtain⟨h1,⟨cs,h2,h2'⟩,_⟩:=h.r
 exact⟨cs,Z0g h2 ch (by rw [h1];exact Ne.symm h4),h2'⟩
theorem Zlc (t:Turn J own own' w w') {c k:Nat} (hc:c<w.heap.size) (h:own c=k):own' c=k:=(t.old c hc).trans h
theorem LwO.firmNew (h:LwO own w0 w B L) (hb:Below w.heap.size w wa) (ho:w'.ownsRow 0 35 1 (.slice (some ⟨g,0,none⟩) (B.fr.length+1) cap) (B.fr.length+1) (Z1h Zbs B.fr++[.slice none 0 0])) (hg:wa.grownBy w' B.fv.ownBlock)
  (hat:B.fv.ownBlock=some g∨g=wa.heap.size) (hl:g<w'.heap.size) :
  ∃ own',LwO own' w0 (w'.setCell ⟨B.lb,2,none⟩ (.slice (some ⟨g,0,none⟩) (B.fr.length+1) cap)) { B with fv:=.slice (some ⟨g,0,none⟩) (B.fr.length+1) cap,fr:=B.fr++[⟨none,0,0⟩] } { L with firm:=L.firm++[[]] } ∧
    Keeps own own' w (w'.setCell ⟨B.lb,2,none⟩ (.slice (some ⟨g,0,none⟩) (B.fr.length+1) cap)):=by
 obtain⟨hG,ch⟩:=GL.app Zbs (x:=⟨none,0,0⟩) (show GL Zbs own w 35 B.fv B.fr 5 from h.r.fro) hb ho hg hat hl
 have t:=h.turn2 (lab:=5) (o:=2) (v:=.slice (some ⟨g,0,none⟩) (B.fr.length+1) cap) (by unfold JL;omega) (by omega) ch
 obtain⟨cs,h2,b0⟩:=h.at4 (by omega) ch
 obtain⟨h1,⟨_,h0,_⟩,h3,h4,h5,h6,h7,h8,h9⟩:=h.r
 have t3:Turn (fun o=>o=4) (Z5q own w.heap.size w'.heap.size 5) (Z5q own w.heap.size w'.heap.size 5) w' (w'.setCell ⟨B.lb,2,none⟩ (.slice (some ⟨g,0,none⟩) (B.fr.length+1) cap)):=
  .same (Z06 (Chg.refl _ _) (Zlc t (Z04 h0) h1)) fun c hc=>Zcd ch.size hc
 refine⟨_,h.law t (fun o ho=>by unfold JL;omega) ⟨Zlc t (Z04 h0) h1,⟨_,Z0d h2,b0.setFv _ _ _⟩,GL.turn _ hG t3 (by omega),?_,fun j x l hx a0=>?_,GL.turn _ h6 t (by omega),GL.turn _ h7 t (by omega),EL.turn h8 t (by omega),h9⟩ rfl rfl⟩
 ·show (B.fr++[_]).length=(L.firm++[[]]).length
  rw [List.length_append,List.length_append,h4];rfl
 ·have hx:(B.fr++[⟨none,0,0⟩])[j]?=some x:=hx
  have a0:(L.firm++[[]])[j]?=some l:=a0
  by_cases hj:j<B.fr.length
  ·rw [List.getElem?_append_left hj] at hx
   rw [List.getElem?_append_left (by omega)] at a0
   exact EL.turn (h5 j x l hx a0) t (by omega)
  ·have hj2:j<B.fr.length+1:=by
    have:=(List.getElem?_eq_some_iff.1 hx).1
    rw [List.length_append] at this;exact this
   have ej:j=B.fr.length:=by omega
   subst ej
   rw [List.getElem?_concat_length] at hx
   rw [h4,List.getElem?_concat_length] at a0
   cases hx
   cases a0
   exact⟨World.ownsRow_nil _ _ _ _,fun k hk=>by cases hk⟩
theorem LwO.viewNew (h:LwO own w0 w B L) {x:Int × Int × Int} (hb:Below w.heap.size w wa) (ho:w'.ownsRow 0 158 3 (.slice (some ⟨g,0,none⟩) (L.views.length+1) cap) (L.views.length+1) (Z1h Zkz L.views++Zkz.cells x)) (hg:wa.grownBy w' B.vv.ownBlock)
  (hat:B.vv.ownBlock=some g∨g=wa.heap.size) (hl:g<w'.heap.size) :
  ∃ own',LwO own' w0 (w'.setCell ⟨B.lb,20,none⟩ (.slice (some ⟨g,0,none⟩) (L.views.length+1) cap)) { B with vv:=.slice (some ⟨g,0,none⟩) (L.views.length+1) cap } { L with views:=L.views++[x] } ∧
    Keeps own own' w (w'.setCell ⟨B.lb,20,none⟩ (.slice (some ⟨g,0,none⟩) (L.views.length+1) cap)):=by
 obtain⟨hG,ch⟩:=GL.app Zkz (x:=x) (show GL Zkz own w 158 B.vv L.views 7 from h.r.vws) hb ho hg hat hl
 have t:=h.turn2 (lab:=7) (o:=20) (v:=.slice (some ⟨g,0,none⟩) (L.views.length+1) cap) (by unfold JL;omega) (by omega) ch
 obtain⟨cs,h2,a0⟩:=h.at4 (by omega) ch
 obtain⟨h1,⟨_,h0,_⟩,h3,h4,h5,h6,h7,h8,h9⟩:=h.r
 have t3:Turn (fun o=>o=4) (Z5q own w.heap.size w'.heap.size 7) (Z5q own w.heap.size w'.heap.size 7) w' (w'.setCell ⟨B.lb,20,none⟩ (.slice (some ⟨g,0,none⟩) (L.views.length+1) cap)):=
  .same (Z06 (Chg.refl _ _) (Zlc t (Z04 h0) h1)) fun c hc=>Zcd ch.size hc
 exact⟨_,h.law t (fun o ho=>by unfold JL;omega) ⟨Zlc t (Z04 h0) h1,⟨_,Z0d h2,a0.setVv _ _⟩,GL.turn _ h3 t (by omega),h4,fun j x l hx hl'=>EL.turn (h5 j x l hx hl') t (by omega),GL.turn _ h6 t (by omega),GL.turn _ hG t3 (by omega),EL.turn h8 t (by omega),h9⟩ rfl rfl⟩
end
end
section
open Go.RowKit
theorem infoSle:(Tryz.prog.info? 35).map (fun i=>(i.zero,i.size,i.bytes))=some (some (.slice none 0 0),1,24):=by kernel_rfl
section
variable {own own':Nat→Nat} {w0 w wa w':World} {B B':LwAt} {L L':Lw} {c m:Nat}
theorem Keeps.below {own:Nat→Nat} {w w':World} (hb:Below w.heap.size w w'):Keeps own own w w':=⟨hb.size,fun c hc h=>⟨h,hb.block c hc⟩⟩
theorem LwO.cells (h:LwO own w0 w B L):∃ cs,w.heap[B.lb]?=some (.cells cs 80 (0,0))∧LwC B L cs:=h.r.blk
theorem Zdq (h:LwO own w0 w B L) (id:Nat) (hi:id<8) (hfl:L.firm.length≤1000000) :
  Calls Tryz.prog 98 #[Z09 B.lb, .int .i64 id] w fun r w'=>r=.returned (.tuple #[])∧∃ own' B',LwO own' w0 w' B' (L.started id)∧B'.lb=B.lb∧B'.A=B.A∧Keeps own own' w w':=by
 obtain⟨i0,t0,d1,e1,f1⟩:=info_parts infoSle
 replace t0:=hd_ t0
 obtain⟨cs,m0,hC⟩:=h.cells
 have c2:w.cell? ⟨B.lb,2,none⟩=some B.fv:=(Z00 m0 2).trans hC.c2
 have z2:=Z03 m0 2
 have lb:=Z04 m0
 have d0:=h.r.fro.1
 obtain⟨ao,v0,h0⟩:=(d0.rd Zbs).len
 rw [h0] at c2 d0
 have s0:=h.r.frn
 have hnl:B.fr.length≤1000000:=by omega
 replace h:=hd_ h;replace hC:=hd_ hC;replace h0:=hd_ h0;replace s0:=hd_ s0;replace d0:=hd_ d0;replace m0:=hd_ m0
 go_enter Tryz.func98,Tryz.ntmps98
 go_wp2_with (first
  | (at_builtin;refine wpList_append_lies _ rfl _ _ 74 rfl 0 35 i0 _ 1 24 Tryz.underlying74 t0.out d1 e1 f1 rfl (by decide) (.slice ao B.fr.length v0) B.fr.length (Z1h Zbs B.fr) rfl (World.ownsRow.alloc d0.out _) ⟨_,0,none⟩ 1 1 [.slice none 0 0] rfl rfl ?c1 ?c2 (by decide) ?c3 ?c4 (Nat.zero_le _) (w.heap.size+1) ?c5 ?_))
 case c1=>exact World.news_of_block (cs:=#[.slice none 0 0]) (t:=35) (fr:=(0,0)) (heap_alloc_new w _)
 case c2=>intro u hu;simp only [List.mem_singleton] at hu;subst hu;rfl
 case c3=>unfold maxLen;omega
 case c4=>omega
 case c5=>simp
 intro g j0 w8 e0 c0 l0 p0
 have r0:Below w.heap.size w (w.alloc (.cells #[.slice none 0 0] 35)):=(Below.refl _ _).alloc (Nat.le_refl _) _
 have e8:(w.alloc (.cells #[.slice none 0 0] 35)).heap.size=w.heap.size+1:=World.size_alloc ..
 have b0:B.fv.ownBlock=some g∨g=(w.alloc (.cells #[.slice none 0 0] 35)).heap.size:=by rw [h0.out,e8];exact l0
 have a0:(w.alloc (.cells #[.slice none 0 0] 35)).grownBy w8 B.fv.ownBlock:=by rw [h0.out];exact c0
 have y0:=(GL.app Zbs (x:=⟨none,0,0⟩) (show GL Zbs own w 35 B.fv B.fr 5 from h.out.r.fro) r0 e0 a0 b0 p0).2
 obtain⟨cs8,g0,x0⟩:=h.out.at4 (by omega) y0
 have a1:w8.cell? ⟨B.lb,2,none⟩=some (.slice ao B.fr.length v0):=((Z00 g0 2).trans x0.c2).trans (by rw [h0.out])
 have h1:=Z03 g0 2
 have lb8:=Z04 g0
 obtain⟨own9,h9,k9⟩:=h.out.firmNew r0 e0 a0 b0 p0
 obtain⟨W9,q0⟩:∃ W9,W9=w8.setCell ⟨B.lb,2,none⟩ (.slice (some ⟨g,0,none⟩) (B.fr.length+1) j0):=⟨_,rfl⟩
 rw [← q0] at h9 k9
 replace h9:=hd_ h9;replace k9:=hd_ k9;clear e0 c0 l0 r0 e8 b0 a0 y0 g0 x0 c2 z2 lb;go_upto_region 1 with (fail)
 rw [← q0]
 replace q0:=hd_ q0;clear a1 h1
 refine Z0y (Zf6 B.lb [3+id,11+id,38+id]) (.q 0 (.q 1 (.q 2 (.q 3 (.q 4 (.q 5 (.q 6 (.q 7 (.q 8 (.q 9 (.q 10 (.q 11 (.q 12 (.q 13 (.q 14 (.q 16 (.q 17 (.q 20 (.q 21 (.l 15 (.q 18 (.l 19 (.q 22 (.cut (.l 23 .fin))))))))))))))))))))))))) (by kernel_rfl) (by kernel_rfl) ?_
 intro w10 o0 f0
 have k0:=h9.out.grow f0
 obtain⟨cs1,b1,C1⟩:=k0.cells
 have u2:=Z1d (F:=Zf6 B.lb [3+id,11+id,38+id]) (b:=w10) (g:=B.lb) (o:=2) (fun h=>by have:=h.2;simp at this;omega) (show w10.cell? ⟨B.lb,2,none⟩=some (.slice (some ⟨g,0,none⟩) (B.fr.length+1) j0) from (Z00 b1 2).trans C1.c2)
 have l10:=Z04 b1
 have b2:=Z0d (o:=3+id) (u:=.int .i64 B.fr.length) b1
 have b3:=Z0d (o:=11+id) (u:=.int .i64 0) b2
 have c3:w10.cell? ⟨B.lb,3+id,none⟩=some (.int .i64 (L.now.getD id 0)):=(Z00 b1 _).trans (C1.now id hi)
 have z3:=Z03 b1 (3+id)
 have z0:(w10.setCell ⟨B.lb,3+id,none⟩ (.int .i64 B.fr.length)).cell? ⟨B.lb,11+id,none⟩=some (.int .i64 (L.told.getD id 0)):=(Z00 b2 _).trans (Z2o (by omega) (C1.told id hi))
 have g1:=Z03 b2 (11+id)
 have c38:((w10.setCell ⟨B.lb,3+id,none⟩ (.int .i64 B.fr.length)).setCell ⟨B.lb,11+id,none⟩ (.int .i64 0)).cell? ⟨B.lb,38+id,none⟩=some (.int .i64 (L.slack.getD id 0)):=(Z00 b3 _).trans (Z2o (by omega) (Z2o (by omega) (C1.slack id hi)))
 have z38:=Z03 b3 (38+id)
 obtain⟨l1,l2,l3,l4,l5⟩:=k0.r.len
 have n0:=s0.out
 obtain⟨hA,kA⟩:=k0.set4 (o:=3+id) (v:=.int .i64 B.fr.length) { L with firm:=L.firm++[[]],now:=L.now.set id L.firm.length } rfl rfl rfl rfl rfl ⟨by show (L.now.set _ _).length=8;rw [List.length_set];exact l1,l2,l3,l4,l5⟩ (fun cs h=>by rw [show (Value.int .i64 (B.fr.length:Int))=.int .i64 (L.firm.length:Int) by rw [n0]];exact h.setNow hi l1 _)
 obtain⟨hB,kB⟩:=hA.set4 (o:=11+id) (v:=.int .i64 0) { L with firm:=L.firm++[[]],now:=L.now.set id L.firm.length,told:=L.told.set id 0 } rfl rfl rfl rfl rfl ⟨hA.r.len.1,by show (L.told.set _ _).length=8;rw [List.length_set];exact l2,l3,l4,l5⟩ (fun cs h=>h.setTold hi l2 _)
 obtain⟨hD,kD⟩:=hB.set4 (o:=38+id) (v:=.int .i64 0) (L.started id) rfl rfl rfl rfl rfl ⟨hA.r.len.1,hB.r.len.2.1,l3,l4,by show (L.slack.set _ _).length=8;rw [List.length_set];exact l5⟩ (fun cs h=>h.setSlack hi l5 _)
 have kk:=hd_ ((k9.out.trans (Keeps.below f0)).trans ((kA.trans kB).trans kD))
 replace hD:=hd_ hD;clear hA hB kA kB kD b2 b3 n0 l1 l2 l3 l4 l5;replace k0:=hd_ k0;replace C1:=hd_ C1;replace b1:=hd_ b1;replace o0:=hd_ o0;replace f0:=hd_ f0;iterate 19 (refine Z6l rfl ?_;go_big_quiet_step (fail);refine wpQuiet_nil ?_)
 clear u2;refine Z4j rfl (by kernel_rfl) ?_;intro K1 hK;go_simp
 refine hK _ _ ((ChgC.refl _ _).set ⟨rfl,by simp⟩) ?_
 clear hK K1 c3 z3;refine Z6l rfl ?_;go_big_quiet_step (fail);refine wpQuiet_nil ?_;refine Z4j rfl (by kernel_rfl) ?_;intro K1 hK;go_simp
 refine hK _ _ (((ChgC.refl _ _).set ⟨rfl,by simp⟩).set ⟨rfl,by simp⟩) ?_
 clear hK K1 z0 g1;refine Z6l rfl ?_;go_big_quiet_step (fail);refine wpQuiet_nil ?_;refine Z0h Z1j ?_;refine Z0j rfl (by kernel_rfl) ?_;intro K1 hK;go_simp
 refine hK _ _ (Z06 (Chg.refl _ _) trivial) ?_
 clear hK K1;refine Z0c ?_;go_wp2
 go_end0
 exact⟨rfl,own9,_,hD.out,rfl,rfl,kk.out⟩
theorem Zk5 (j:Nat):Z3c.getD j 0=0:=by
 rw [List.getD_eq_getElem?_getD]
 by_cases h:j<8
 ·rcases (by omega:j=0∨j=1∨j=2∨j=3∨j=4∨j=5∨j=6∨j=7) with rfl | rfl | rfl | rfl | rfl | rfl | rfl | rfl<;>rfl
 ·rw [List.getElem?_eq_none (by show 8≤j;omega)];rfl
theorem Z7s:∀ (k id:Nat) (L:Lw),(L.starts k id).firm.length=L.firm.length+k
 | 0,_,_=>rfl
 | k+1,id,L=>by
   show ((L.started id).starts k (id+1)).firm.length=_
   rw [Z7s k]
   show (L.firm++[[]]).length+k=_
   rw [List.length_append,List.length_singleton];omega
def Z7t (wb:Nat) (n:Int):Array Value:=#[Z09 wb, .int .i64 n, .slice none 0 0, .int .i64 0, .int .i64 0, .int .i64 0, .int .i64 0, .int .i64 0, .int .i64 0, .int .i64 0, .int .i64 0, .int .i64 0, .int .i64 0, .int .i64 0, .int .i64 0, .int .i64 0, .int .i64 0, .int .i64 0, .int .i64 0,
 .slice none 0 0, .slice none 0 0, .slice none 0 0, .int .i64 0, .int .i64 0, .int .i64 0, .int .i64 0, .int .i64 0, .int .i64 0, .int .i64 0, .int .i64 0, .int .i64 0, .int .i64 0, .int .i64 0, .int .i64 0, .int .i64 0, .int .i64 0, .int .i64 0, .int .i64 0, .int .i64 0, .int .i64 0, .int .i64 0, .int .i64 0, .int .i64 0, .int .i64 0, .int .i64 0, .int .i64 0, .bool true]
theorem LwO.zero {A:WlAt} {n:Int} (h:WlO own w0 w A (Wl.make n)):LwO (labO own w.heap.size 4) w0 (w.alloc (.cells (Z7t A.wb n) 80)) ⟨w.heap.size,A, .slice none 0 0,[], .slice none 0 0, .slice none 0 0, .slice none 0 0⟩ (lw0 n):=by
 have hb:Below w.heap.size w (w.alloc (.cells (Z7t A.wb n) 80)):=(Below.refl _ _).alloc (Nat.le_refl _) _
 have hs:(w.alloc (.cells (Z7t A.wb n) 80)).heap.size=w.heap.size+1:=World.size_alloc ..
 have t:Turn (fun o=>o=4) own (labO own w.heap.size 4) w (w.alloc (.cells (Z7t A.wb n) 80)):=⟨.of_below hb,fun c hc=>Z45 (by omega),fun c hc=>by rw [Z45 (by omega)];exact h.wf c (by omega)⟩
 have z:∀ s,(s=3∨s=11∨s=22∨s=30∨s=38)→∀ j,j<8→(Z7t A.wb n)[s+j]?=some (.int .i64 (Z3c.getD j 0)):=fun s hs j hj=>by
  rw [Zk5]
  rcases hs with rfl | rfl | rfl | rfl | rfl<;>rcases (by omega:j=0∨j=1∨j=2∨j=3∨j=4∨j=5∨j=6∨j=7) with rfl | rfl | rfl | rfl | rfl | rfl | rfl | rfl<;>rfl
 refine⟨h.far t fun o ho=>by unfold JL;omega,Zdh _ _ _,⟨_,Z0a _ _,rfl,rfl,rfl,rfl,z 3 (by omega),z 11 (by omega),rfl,rfl,rfl,z 22 (by omega),z 30 (by omega),z 38 (by omega),rfl⟩,⟨Z12 _ _ _ _,fun k hk=>(by cases hk)⟩,rfl,fun j x l hx _=>(by cases hx),⟨Z12 _ _ _ _,fun k hk=>(by cases hk)⟩,⟨Z12 _ _ _ _,fun k hk=>(by cases hk)⟩,⟨World.ownsRow_nil _ _ _ _,fun k hk=>(by cases hk)⟩,rfl,rfl,rfl,rfl,rfl⟩
theorem Zf2 (w:World) (m0:∃ m,w.cell? ⟨0,0,none⟩=some (.int .i64 m)) (n:Int) (h3:3≤n) (h7:n≤7) :
  Calls Tryz.prog 42 #[.int .i64 n] w fun r w'=>∃ own B,r=.returned (Z09 B.lb)∧LwO own w w' B (Lw.make n):=by
 obtain⟨N,hN⟩:∃ N:Nat,n=N:=⟨n.toNat,by omega⟩
 subst hN
 have hW:=hd_ (wlNew_ok w m0 (N:Int) h3 h7)
 go_enter Tryz.func42,Tryz.ntmps42
 go_wp2_with fail
 refine hW.out.mono ?_
 rintro r w1 ⟨own1,A1,rfl,h1⟩
 obtain⟨W2,c0⟩:∃ W2,W2=w1.alloc (.cells #[Z09 A1.wb, .int .i64 N, .slice none 0 0, .int .i64 0, .int .i64 0, .int .i64 0, .int .i64 0, .int .i64 0, .int .i64 0, .int .i64 0, .int .i64 0, .int .i64 0, .int .i64 0, .int .i64 0, .int .i64 0, .int .i64 0, .int .i64 0, .int .i64 0, .int .i64 0,
  .slice none 0 0, .slice none 0 0, .slice none 0 0, .int .i64 0, .int .i64 0, .int .i64 0, .int .i64 0, .int .i64 0, .int .i64 0, .int .i64 0, .int .i64 0, .int .i64 0, .int .i64 0, .int .i64 0, .int .i64 0, .int .i64 0, .int .i64 0, .int .i64 0, .int .i64 0, .int .i64 0, .int .i64 0, .int .i64 0, .int .i64 0, .int .i64 0, .int .i64 0, .int .i64 0, .int .i64 0, .bool true] 80):=⟨_,rfl⟩
 have hZ:∃ own B,B.lb=w1.heap.size∧LwO own w W2 B (lw0 N):=⟨_,⟨w1.heap.size,A1, .slice none 0 0,[], .slice none 0 0, .slice none 0 0, .slice none 0 0⟩,rfl,by rw [c0];exact LwO.zero h1⟩
 replace h1:=hd_ h1;clear hW;go_upto_region 5 with (fail)
 rw [← c0]
 replace c0:=hd_ c0
 obtain⟨own2,B2,d0,h2⟩:=hZ
 rw [← d0]
 obtain⟨cs2,b2,C2⟩:=h2.cells
 have l2:=Z04 b2
 replace h2:=hd_ h2;replace d0:=hd_ d0;clear b2 C2;go_wp2
 go_loopw [5] (fun i wr=>∃ (k:Nat) (own':Nat→Nat) (B':LwAt),k≤N∧i=.int .i64 ((k+1:Nat):Int)∧LwO own' w wr B' ((lw0 N).starts k 1)∧B'.lb=B2.lb) (fun i _=>N+1-(intOf i).toNat)
 case atStart=>exact⟨0,own2,B2,Nat.zero_le _,by go_num,h2.out,rfl⟩
 case round=>
  obtain⟨k,own3,B3,hk,rfl,b0,e3⟩:=hrel
  by_cases hlt:k<N
  ·have e0:decide ((k:Int)+1≤(N:Int))=true:=decide_eq_true (by omega)
   have hS:=Zdq b0 (k+1) (by omega) (by rw [Z7s];show 0+k≤1000000;omega)
   rw [show ((lw0 N).starts k 1).started (k+1)=(lw0 N).starts (k+1) 1 by rw [Z7r];rw [Nat.add_comm],e3] at hS
   have f0:((k+1:Nat):Int)=(k:Int)+1:=by omega
   replace hS:=hd_ hS;replace b0:=hd_ b0;replace e3:=hd_ e3;go_wp2_with fail
   refine hS.out.mono ?_
   rintro r w4 ⟨rfl,own4,B4,h4,e4,e5,k4⟩;replace h4:=hd_ h4;clear hS k4;go_wp2
   go_roundw
   case rel=>exact⟨k+1,own4,B4,by omega,by go_num,h4.out,e4⟩
   case measure=>simp [intOf];omega
  ·have g0:k=N:=by omega
   subst g0
   have e0:decide ((k:Int)+1≤(k:Int))=false:=decide_eq_false (by omega)
   have a0:LwO own3 w wr B3 (Lw.make k):=b0
   replace a0:=hd_ a0;clear b0;go_wp2
   go_ret
   exact⟨own3,B3,by rw [e3];rfl,a0.out⟩
end
end
section
open Go.RowKit
def abE:ByteArray:=⟨#[97,61,98]⟩
def chkD (c:Nat) (W:Wl):Bool:=W.ps.all fun p=>decide (0≤p.boot)&&decide (p.boot≤c)&&(decide (0≤p.dv)&&decide (p.dv≤1099511627776))&&(decide (0≤p.lost)&&decide (p.lost≤c))
theorem Zk6 {c:Nat} {W:Wl} (h:chkD c W=true):WOd c W:=by
 have a0:∀ i,(0≤(Z0i W i).boot∧(Z0i W i).boot≤c)∧(0≤(Z0i W i).dv∧(Z0i W i).dv≤1099511627776)∧0≤(Z0i W i).lost∧(Z0i W i).lost≤c:=by
  intro i
  unfold Z0i
  rw [List.getD_eq_getElem?_getD]
  cases hp:W.ps[i-1]? with
  | none=>
    refine⟨⟨Int.le_refl _,?_⟩,⟨Int.le_refl _,?_⟩,Int.le_refl _,?_⟩
    ·show (0:Int)≤c;omega
    ·show (0:Int)≤1099511627776;omega
    ·show (0:Int)≤c;omega
  | some p=>
    have:=List.all_eq_true.1 h p (List.mem_of_getElem? hp)
    simp only [Bool.and_eq_true,decide_eq_true_eq] at this
    obtain⟨⟨h1,h2⟩,h3⟩:=this
    exact⟨h1,h2,h3⟩
 exact⟨fun i _=>(a0 i).1,fun i _=>(a0 i).2.1,fun i _=>(a0 i).2.2⟩
def Q15:Wl:=(Wl.make 3).rounds 15
def Q16:Wl:=(Q15.step 8 3 0 1 1 abE).1
def Q20:Wl:=Q16.rounds 4
theorem k15:(Wl.make 3).roundsC 15≤3000:=by decide +kernel
theorem d15:chkD 1 Q15=true:=by decide +kernel
theorem v15:((Z0i Q15 2).s.map Nd.view)=some (1,7,true):=by decide +kernel
theorem e16:(Q15.step 8 3 0 1 1 abE).2=0:=by decide +kernel
theorem k4:Q16.roundsC 4≤3000:=by decide +kernel
theorem f20:((Z0i Q20 2).s.map fun s=>(s.td.length,s.good))=some (1,true):=by decide +kernel
theorem r20:Q20.real=19:=by decide +kernel
theorem n15:Q15.n=3:=Z6u _ _
theorem n16:Q16.n=3:=by decide +kernel
theorem n20:Q20.n=3:=(Z6u _ _).trans n16
section
variable {own own':Nat→Nat} {w0 w w':World} {A A':WlAt} {W:Wl} {i c:Nat} {s:Nd}
theorem Z3s (h:WlO own w0 w A W) (hf:WOk c W) (n:Nat) (hn:n≤200) (hc:c+W.roundsC n≤390000) (a o l:Int) (d:ByteArray) :
  Calls Tryz.prog 43 #[Z09 A.wb,Z8n 9 a n o l d] w fun r w'=>∃ own' A',r=.returned (.int .i64 0)∧WlO own' w0 w' A' (W.rounds n)∧WOk (c+W.roundsC n) (W.rounds n)∧KeepW own own' w w'∧A'.wb=A.wb∧A'.nb=A.nb:=by
 refine (Z7q h 9 rfl a n o l d (fun z w'=>z=0∧∃ own' A',WlO own' w0 w' A' (W.rounds n)∧WOk (c+W.roundsC n) (W.rounds n)∧KeepW own own' w w'∧A'.wb=A.wb∧A'.nb=A.nb) fun w1 h1 hb=>?_).mono ?_
 ·refine (Zgp h1 hf n hn hc).mono ?_
  rintro r w' ⟨own',A',rfl,h2,f2,k2,s2⟩
  exact⟨0,rfl,rfl,own',A',h2,f2,(KeepW.below hb).trans k2,s2.wb,s2.nb⟩
 ·rintro r w' ⟨z,rfl,rfl,own',A',h2⟩
  exact⟨own',A',rfl,h2⟩
theorem WlO.nod (h:WlO own w0 w A W) (hi:1≤i) (hs:(Z0i W i).s=some s):NdO own (KI i) w { A.nd i with cs:=wlC A W } s []:=(h.pr i s hi hs).nd
theorem wGood (h:WlO own w0 w A W) (hf:WOk c W) (hc:c<1000000000) (hi:1≤i) (hs:(Z0i W i).s=some s):Calls Tryz.prog 29 #[Z09 (A.nd i).b] w fun r w'=>r=.returned (.bool s.good)∧Below w.heap.size w w':=by
 have hF:=hf.pr i s hi hs
 have h1:=hF.pt.b1;have h2:=hF.ok.c1
 exact Zb7 (a:={ A.nd i with cs:=wlC A W }) (h.nod hi hs) ⟨hF.ok.m0,hF.ok.m1⟩ hF.pt.b0 (by omega) hF.ok.c0 (by omega)
theorem wView (h:WlO own w0 w A W) (hf:WOk c W) (hi:1≤i) (hs:(Z0i W i).s=some s):Calls Tryz.prog 28 #[Z09 (A.nd i).b] w fun r w'=>r=.returned (.tuple #[.int .i64 s.view.1, .int .i64 s.view.2.1, .bool s.view.2.2])∧Below w.heap.size w w':=by
 have hF:=hf.pr i s hi hs
 exact ndView (a:={ A.nd i with cs:=wlC A W }) (h.nod hi hs) ⟨hF.ok.m0,hF.ok.m1⟩
theorem wTold (h:WlO own w0 w A W) (hf:WOk c W) (hc:c<1000000) (hi:1≤i) (hs:(Z0i W i).s=some s):Calls Tryz.prog 32 #[Z09 (A.nd i).b] w fun r w'=>∃ v',r=.returned v'∧ownG Z0k w' w.heap.size 136 v' s.td∧Below w.heap.size w w':=by
 have hF:=hf.pr i s hi hs
 exact ndTold (a:={ A.nd i with cs:=wlC A W }) (h.nod hi hs) (by have:=hF.ok.tdl;omega)
theorem wLog (h:WlO own w0 w A W) (hf:WOk c W) (hi:1≤i) (hs:(Z0i W i).s=some s):Calls Tryz.prog 30 #[Z09 (A.nd i).b] w fun r w'=>∃ v',r=.returned v'∧ownE w' w.heap.size 134 v' s.L∧Below w.heap.size w w':=by
 have hF:=hf.pr i s hi hs
 exact ndLog (a:={ A.nd i with cs:=wlC A W }) (h.nod hi hs) (by have:=hF.ok.lg;omega)
theorem wKnows (h:WlO own w0 w A W) (hi:1≤i) (hs:(Z0i W i).s=some s):Calls Tryz.prog 111 #[Z09 (A.nd i).b] w fun r w'=>r=.returned (.bool s.knows)∧w=w':=ndKnows (a:={ A.nd i with cs:=wlC A W }) (h.nod hi hs)
theorem Zln (h:WlO own w0 w A W) (hi:1≤i) (hs:(Z0i W i).s=some s):Calls Tryz.prog 31 #[Z09 (A.nd i).b] w fun r w'=>r=.returned (.int .i64 s.com)∧w=w':=ndCommit (a:={ A.nd i with cs:=wlC A W }) (h.nod hi hs)
end
end
section
open Go.RowKit
section
variable {own own':Nat→Nat} {w0 w w':World} {A A':WlAt} {B B':LwAt} {L L':Lw} {W W':Wl}
theorem LwO.c0 (h:LwO own w0 w B L):w.cell? ⟨B.lb,0,none⟩=some (Z09 B.A.wb):=by
 obtain⟨cs,h1,h2⟩:=h.cells
 exact (Z00 h1 0).trans h2.c0
theorem LwO.lt (h:LwO own w0 w B L):B.lb<w.heap.size:=by
 obtain⟨cs,h1,h2⟩:=h.cells
 exact Z04 h1
theorem LwO.turnW (h:LwO own w0 w B L) (hw:WlO own' w0 w' A' W') (k:KeepW own own' w w') (e:A'.wb=B.A.wb) (hn:W'.n=L.W.n):LwO own' w0 w' { B with A:=A' } { L with W:=W' }:=
 ⟨hw,(h.r.keepW k).setW e hn⟩
theorem Zm4 (w:World) (m0:∃ m,w.cell? ⟨0,0,none⟩=some (.int .i64 m)):Calls Tryz.prog 41 #[] w fun r w'=>r=.returned (.bool true)∧Below w.heap.size w w':=by
 have n0:=hd_ (Zf2 w m0 3 (by omega) (by omega))
 go_enter Tryz.func41,Tryz.ntmps41
 go_wp2_with fail
 refine n0.out.mono ?_
 rintro r w1 ⟨own1,B1,rfl,h1⟩
 have v0:(Lw.make 3).W.n=3:=rfl
 have c1:=h1.c0
 have l1:=h1.lt
 have y0:Calls Tryz.prog 45 #[Z09 B1.A.wb, .int .i64 1] w1 fun r w'=>r=.returned (Z09 (B1.A.nd 1).b)∧Below w1.heap.size w1 w':=Z1n h1.wl (i:=1) (Nat.le_refl _) (by rw [v0];decide)
 replace h1:=hd_ h1;replace y0:=hd_ y0;clear n0;go_wp2_with fail
 refine y0.out.mono ?_
 rintro r w2 ⟨rfl,y1⟩
 have h2:=h1.out.grow y1
 have c2:=h2.c0
 have l2:=h2.lt
 have z0:Calls Tryz.prog 66 #[Z09 B1.A.wb, .int .i64 2] w2 fun r w'=>r=.returned (Z09 (B1.A.cb 2))∧Below w2.heap.size w2 w':=Zdp h2.wl (i:=2) (by omega) (by rw [v0];decide)
 replace h2:=hd_ h2;replace z0:=hd_ z0;clear c1 l1 y0 y1;go_wp2_with fail
 refine z0.out.mono ?_
 rintro r w3 ⟨rfl,z1⟩
 have h3:=h2.out.grow z1
 have c3:=h3.c0
 have l3:=h3.lt
 have b1:Calls Tryz.prog 59 #[Z09 B1.A.wb, .int .i64 3] w3 fun r w'=>r=.returned (.pointer (some ⟨B1.A.wb,15,none⟩))∧Below w3.heap.size w3 w':=Zk2 h3.wl (i:=3) (by omega) (by rw [v0];decide)
 replace h3:=hd_ h3;replace b1:=hd_ b1;clear c2 l2 z0 z1;go_wp2_with fail
 refine b1.out.mono ?_
 rintro r w4 ⟨rfl,b2⟩
 have h4:=h3.out.grow b2
 have c4:=h4.c0
 have l4:=h4.lt
 have d1:Calls Tryz.prog 45 #[Z09 B1.A.wb, .int .i64 4] w4 fun r w'=>r=.returned (.pointer none)∧Below w4.heap.size w4 w':=Z69 h4.wl 4 (by rw [v0];omega)
 replace h4:=hd_ h4;replace d1:=hd_ d1;clear c3 l3 b1 b2;go_wp2_with fail
 refine d1.out.mono ?_
 rintro r w5 ⟨rfl,d2⟩
 have h5:=h4.out.grow d2
 have c5:=h5.c0
 have l5:=h5.lt
 have f2:WOk 0 (Lw.make 3).W:=by
  show WOk 0 (Wl.make 3)
  rw [← Z5i 3 3 (by decide)]
  exact WOk.made (by omega) (by omega) 3
 have f1:Calls Tryz.prog 43 #[Z09 B1.A.wb,Z8n 9 0 15 0 0 ByteArray.empty] w5 fun r w'=>∃ own' A',r=.returned (.int .i64 0)∧WlO own' w w' A' Q15∧WOk 3000 Q15∧KeepW own1 own' w5 w'∧A'.wb=B1.A.wb∧A'.nb=B1.A.nb:=by
  refine (Z3s h5.wl f2 15 (by omega) (by have:=k15;show 0+(Wl.make 3).roundsC 15≤390000;omega) 0 0 0 ByteArray.empty).mono ?_
  rintro r w' ⟨own',A',rfl,a1,a2,a3⟩
  exact⟨own',A',rfl,a1,a2.up (by have:=k15;show 0+(Wl.make 3).roundsC 15≤3000;omega),a3⟩
 replace h5:=hd_ h5;replace f1:=hd_ f1;clear c4 l4 d1 d2 f2;go_wp2_with fail
 refine f1.out.mono ?_
 rintro r w6 ⟨own6,A6,rfl,x0,j1,k6,e6,s1⟩
 have h6:=h5.out.turnW x0 k6 e6 (n15.trans v0.symm)
 have c6:w6.cell? ⟨B1.lb,0,none⟩=some (Z09 A6.wb):=h6.c0
 have l6:B1.lb<w6.heap.size:=h6.lt
 obtain⟨s2,k1,q2⟩:∃ s,(Z0i Q15 2).s=some s∧s.view=(1,7,true):=by
  have:=v15
  cases hs:(Z0i Q15 2).s with
  | none=>rw [hs] at this;cases this
  | some s=>rw [hs] at this;injection this with this;exact⟨s,rfl,this⟩
 have e1:Calls Tryz.prog 45 #[Z09 A6.wb, .int .i64 2] w6 fun r w'=>r=.returned (Z09 (A6.nd 2).b)∧Below w6.heap.size w6 w':=by
  have:=Z1n x0 (i:=2) (by omega) (by rw [n15];decide)
  unfold xV at this
  rw [k1] at this
  exact this
 replace h6:=hd_ h6;replace x0:=hd_ x0;replace j1:=hd_ j1;replace e1:=hd_ e1;replace k1:=hd_ k1;replace e6:=hd_ e6;replace s1:=hd_ s1;clear c5 l5 f1 k6;go_wp2_with fail
 refine e1.out.mono ?_
 rintro r w7 ⟨rfl,o1⟩
 have h7:=h6.out.grow o1
 have c7:w7.cell? ⟨B1.lb,0,none⟩=some (Z09 A6.wb):=h7.c0
 have l7:B1.lb<w7.heap.size:=h7.lt
 have o0:=wView (x0.out.grow o1) j1.out (by omega) k1.out
 rw [q2] at o0
 replace h7:=hd_ h7;replace o0:=hd_ o0;clear c6 l6 e1 o1;go_wp2_with fail
 refine o0.out.mono ?_
 rintro r w8 ⟨rfl,e2⟩
 have h8:=h7.out.grow e2
 have c8:w8.cell? ⟨B1.lb,0,none⟩=some (Z09 A6.wb):=h8.c0
 have l8:B1.lb<w8.heap.size:=h8.lt
 have g1:=Z6b h8.wl (c:=3000) j1.out ((Zk6 d15).up (by omega)) (by omega) 8 3 0 1 1 abE (by decide)
 replace h8:=hd_ h8;replace g1:=hd_ g1;clear c7 l7 o0 e2;go_wp2_with fail
 refine g1.out.mono ?_
 rintro r w9 ⟨z9,rfl,r1,own9,A9,k0,t0,p2,k9,e9,t1⟩
 replace r1:z9=0:=r1.trans e16
 subst r1
 replace k0:WlO own9 w w9 A9 Q16:=k0
 replace t0:WOk 3003 Q16:=t0
 have h9:=h8.out.turnW k0 k9 e9 (n16.trans n15.symm)
 have c9:w9.cell? ⟨B1.lb,0,none⟩=some (Z09 A9.wb):=h9.c0
 have l9:B1.lb<w9.heap.size:=h9.lt
 have i1:Calls Tryz.prog 43 #[Z09 A9.wb,Z8n 9 0 4 0 0 ByteArray.empty] w9 fun r w'=>∃ own' A',r=.returned (.int .i64 0)∧WlO own' w w' A' Q20∧WOk 7000 Q20∧KeepW own9 own' w9 w'∧A'.wb=A9.wb∧A'.nb=A9.nb:=by
  refine (Z3s k0 t0 4 (by omega) (by have:=k4;omega) 0 0 0 ByteArray.empty).mono ?_
  rintro r w' ⟨own',A',rfl,a1,a2,a3⟩
  exact⟨own',A',rfl,a1,a2.up (by have:=k4;omega),a3⟩
 replace h9:=hd_ h9;replace i1:=hd_ i1;replace t0:=hd_ t0;replace k0:=hd_ k0;replace e9:=hd_ e9;replace t1:=hd_ t1;clear c8 l8 g1 k9 p2;go_wp2_with fail
 refine i1.out.mono ?_
 rintro r w10 ⟨own10,A10,rfl,a0,h0,i2,m1,l0⟩
 have i0:=h9.out.turnW a0 i2 m1 (n20.trans n16.symm)
 have j2:w10.cell? ⟨B1.lb,0,none⟩=some (Z09 A10.wb):=i0.c0
 have r2:B1.lb<w10.heap.size:=i0.lt
 obtain⟨t2,w0,p1,q1⟩:∃ s,(Z0i Q20 2).s=some s∧s.td.length=1∧s.good=true:=by
  have:=f20
  cases hs:(Z0i Q20 2).s with
  | none=>rw [hs] at this;cases this
  | some s=>rw [hs] at this;injection this with this;injection this with h1 h2;exact⟨s,rfl,h1,h2⟩
 have g0:∀ v,Below w10.heap.size w10 v→Calls Tryz.prog 45 #[Z09 A10.wb, .int .i64 2] v fun r w'=>r=.returned (Z09 (A10.nd 2).b)∧Below v.heap.size v w':=fun v hb=>by
  have:=Z1n (a0.grow hb) (i:=2) (by omega) (by rw [n20];decide)
  unfold xV at this
  rw [w0] at this
  exact this
 have j0:∀ v,Below w10.heap.size w10 v→v.cell? ⟨B1.lb,0,none⟩=some (Z09 A10.wb)∧B1.lb<v.heap.size:=fun v hb=>⟨(i0.grow hb).c0,(i0.grow hb).lt⟩
 replace i0:=hd_ i0;replace a0:=hd_ a0;replace h0:=hd_ h0;replace g0:=hd_ g0;replace j0:=hd_ j0;replace w0:=hd_ w0;replace p1:=hd_ p1;replace q1:=hd_ q1;replace m1:=hd_ m1;replace l0:=hd_ l0
 have v1:=hd_ (g0.out w10 (Below.refl _ _))
 clear c9 l9 i1 i2;go_wp2_with fail
 refine v1.out.mono ?_
 rintro r w11 ⟨rfl,f0⟩
 obtain⟨k2,v2⟩:=j0.out w11 f0
 have hT:=hd_ (wTold (a0.out.grow f0) h0.out (by omega) (by omega) w0.out)
 replace f0:=hd_ f0;clear j2 r2 v1;go_wp2_with fail
 refine hT.out.mono ?_
 rintro r w12 ⟨tv,rfl,g2,p0⟩
 obtain⟨ta,tc,rfl⟩:=(g2.rd Z0k).len
 rw [p1.out]
 have d0:=f0.out.trans (p0.mono f0.out.size)
 obtain⟨m2,x2⟩:=j0.out w12 d0
 have x1:=hd_ (g0.out w12 d0)
 replace d0:=hd_ d0;clear k2 v2 hT g2 p0;go_wp2_with fail
 refine x1.out.mono ?_
 rintro r w13 ⟨rfl,q0⟩
 have e0:=d0.out.trans (q0.mono d0.out.size)
 obtain⟨n2,y2⟩:=j0.out w13 e0
 have hG:=wGood (a0.out.grow e0) h0.out (by omega) (by omega) w0.out
 rw [q1.out] at hG
 replace hG:=hd_ hG;replace e0:=hd_ e0;clear m2 x2 x1 q0;go_wp2_with fail
 refine hG.out.mono ?_
 rintro r w14 ⟨rfl,r0⟩
 have b0:=e0.out.trans (r0.mono e0.out.size)
 obtain⟨o2,z2⟩:=j0.out w14 b0
 have hR:=Z2n (a0.out.grow b0)
 rw [r20] at hR
 have hE:=hd_ (Z6j (a0.out.grow b0) 0 0 0 0 0 ByteArray.empty (by omega))
 replace hR:=hd_ hR;replace b0:=hd_ b0;clear n2 y2 hG r0;go_wp2_with fail
 refine hR.out.mono ?_
 rintro r wx ⟨rfl,rfl⟩;clear hR;go_wp2_with fail
 refine hE.out.mono ?_
 rintro r w15 ⟨rfl,s0⟩
 have n1:=hd_ (a0.out.bel.trans ((b0.out.trans (s0.mono b0.out.size)).mono a0.out.bel.size))
 clear hE s0 o2 z2;go_wp2
 go_ret
 exact⟨rfl,n1.out⟩
end
end
end Go.Proofs.YtbonjbokofkafaaGreat
