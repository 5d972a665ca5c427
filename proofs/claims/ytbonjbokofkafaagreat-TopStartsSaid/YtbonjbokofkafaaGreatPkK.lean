/- Lemmas of the proof: PkK. -/
import Derived.Test.YtbonjbokofkafaaGreatPkJ
import Derived.Test.YtbonjbokofkafaaGreatPkA
import Derived.Test.YtbonjbokofkafaaGreatPkI
import Derived.HandedShaped
import Derived.Shelf.Vars
namespace Go.Proofs.YtbonjbokofkafaaGreat
set_option linter.unusedVariables false
set_option maxRecDepth 100000
set_option maxHeartbeats 64000000
section
open Go.RowKit
section
variable {own:Nat→Nat} {K:Nat} {w:World} {a:NdAt} {s:Nd} {out:List MsS}
theorem Zcp (c:Nat) (h:NdO own K w a s out) (hok:Ok c s) (m:Ms) (sa:Option Addr) (sc:Nat) (hk:m.kind=2) :
  Calls Tryz.prog 118 #[Z09 a.b,Z0w m (.slice sa m.ents.length sc)] w fun r w'=>r=.returned (.tuple #[])∧Stp own K w a w' (s.hears m).1 (out.map MsS.m++(s.hears m).2):=by
 obtain⟨k,f,t,b,vi,la,me,po,es,co,nu,cl,y⟩:=m
 dsimp only at *
 subst hk
 obtain⟨W0,g0⟩:∃ W,W=w.alloc (.cells #[.int .i64 2, .int .i64 f, .int .i64 t, .int .i64 b, .int .i64 vi, .int .i64 la, .int .i64 me, .int .i64 po, .slice sa es.length sc, .int .i64 co, .int .i64 nu, .int .i64 cl, .bool y] 37):=⟨_,rfl⟩
 have l0:Below w.heap.size w W0:=g0 ▸ (Below.refl _ _).alloc (Nat.le_refl _) _
 obtain⟨mb,h0⟩:∃ mb,mb=w.heap.size:=⟨_,rfl⟩
 have d0:W0.heap[mb]?=some (.cells #[.int .i64 2, .int .i64 f, .int .i64 t, .int .i64 b, .int .i64 vi, .int .i64 la, .int .i64 me, .int .i64 po, .slice sa es.length sc, .int .i64 co, .int .i64 nu, .int .i64 cl, .bool y] 37 (0,0)):=g0 ▸ h0 ▸ Z0a _ _
 have a0:=h.grow l0
 have hmo:own mb=0:=h.wf mb (by omega)
 have t0:=hd_ (Turn.grow (J:=JK K) (own:=own) l0 h.wf)
 obtain⟨R,hR⟩:∃ R,s.hears ⟨2,f,t,b,vi,la,me,po,es,co,nu,cl,y⟩=R:=⟨_,rfl⟩
 rw [hR]
 have j0:R=(if s.v.isSome&&decide (s.dv<vi) then { s with denied:=max s.denied vi,again:=true } else s,[]):=by rw [← hR];rfl
 replace j0:=hd_ j0
 have s0:=a0.dv
 have f0:W0.cell? ⟨a.b,17,none⟩=some (Z3f a.v):=a0.c 17
 have c2:W0.cell? ⟨a.b,2,none⟩=some (.pointer (some ⟨a.dk,a.od,none⟩)):=a0.c 2
 have m0:=Z00 d0 0
 have m4:=Z00 d0 4
 simp only [List.getElem?_toArray,List.getElem?_cons_zero,List.getElem?_cons_succ] at m0 m4
 have z0:=a0.lt
 have a1:=Z04 d0
 have h16:=h.r.k16
 have q0:=hok.e0
 have r0:=hok.e1
 replace a0:=hd_ a0;replace d0:=hd_ d0;clear l0 hR
 go_enter Tryz.func118,Tryz.ntmps118
 go_upto_region 1 with (fail)
 rw [← g0,← h0]
 replace g0:=hd_ g0;replace h:=hd_ h;replace h0:=hd_ h0;go_upto_region 7 with (fail)
 have k2:=Z07 c2
 have k4:=Z07 m4
 have HV:Hid (∀ y,Calls Tryz.prog 60 #[.pointer (some ⟨a.dk,a.od,none⟩)] (Z1c W0 y) fun r w'=>r=.returned (.int .i64 s.dv)∧∃ z,w'=Z1c W0 z):=hd_ fun y=>Z0o (Z1m _ _ _ _ (Z07 s0 y))
 go_cut [32] (fun z wx=>z=.bool (s.v.isSome&&decide (s.dv<vi))∧Below W0.heap.size W0 wx)
 case first=>
  cases hsv:s.v with
  | none=>
    have o0:=h.out.vnone hsv
    rw [o0] at f0
    have y0:=Z07 f0
    refine Z08 (by kernel_rfl) (by kernel_rfl) ?_
    repeat (go_big_quiet_step (fail))
    refine wpQuiet_nil ?_
    intro w2 i0
    have b0:=hd_ (Z0e i0)
    clear i0;go_wp2_with fail
    go_meet
    exact⟨by rw [hsv];rfl,b0.out⟩
  | some ul=>
    obtain⟨u,l⟩:=ul
    obtain⟨vb,o0⟩:=h.out.vsome hsv
    rw [o0] at f0
    have y0:=Z07 f0
    refine Z08 (by kernel_rfl) (by kernel_rfl) ?_
    repeat (go_big_quiet_step (first | (go_at_call 60;exact HV.out _)))
    refine wpQuiet_nil ?_
    intro w2 i0
    have b0:=hd_ (Z0e i0)
    clear i0;go_wp2_with fail
    go_meet
    exact⟨by rw [hsv];simp,b0.out⟩
 case rest=>
  obtain⟨rfl,b0⟩:=hcut
  rename World=>w2
  obtain⟨g,hg⟩:∃ g,(s.v.isSome&&decide (s.dv<vi))=g:=⟨_,rfl⟩
  rw [hg]
  replace hg:=hd_ hg
  have n0:=hd_ (a0.out.grow b0)
  have t2:=hd_ (t0.out.trans (Turn.grow (J:=JK K) b0 a0.out.wf))
  have w0:=hd_ (Z02 d0.out b0)
  clear b0 k2 k4 HV f0 c2 m0 m4 z0 a1 s0
  cases g
  case false=>
   go_wp2
   go_end0
   have e:R=(s,[]):=by rw [j0.out,hg.out];rfl
   rw [e]
   refine⟨rfl,?_⟩
   rw [List.append_nil]
   exact n0.out.stp (.refl a) t2.out
  go_upto_region 8 with (fail)
  refine Z0y (Zf6 a.b [18,19]) (.q 0 (.q 1 (.q 2 (.q 3 (.q 4 (.q 6 (.q 7 (.l 5 (.q 8 (.q 9 (.q 10 (.l 11 (.q 12 (.q 13 (.l 14 .fin))))))))))))))) (by kernel_rfl) (by kernel_rfl) ?_
  intro w3 v0 k0
  have c0:=n0.out.grow k0
  have p0:=Z02 w0.out k0
  have x0:mb≠a.b:=by have:=h.out.lt;have:=h0.out;omega
  have x4:w3.cell? ⟨mb,4,none⟩=some (.int .i64 vi):=Z00 p0 4
  have um:=Z1d (F:=Zf6 a.b [18,19]) (b:=w3) (g:=mb) (o:=4) (fun h=>x0 h.1) x4
  have q18:w3.cell? ⟨a.b,18,none⟩=some (.int .i64 s.denied):=c0.c 18
  have q19:w3.cell? ⟨a.b,19,none⟩=some (.bool s.again):=c0.c 19
  have z18:=c0.free 18
  have z19:=c0.free 19
  have la3:=c0.lt
  have lm3:=Z04 p0
  obtain⟨hA,tA⟩:=c0.s18 (max s.denied vi)
  obtain⟨hB,tB⟩:=hA.s19 true
  have hT:=hd_ (t2.out.trans ((Turn.grow (J:=JK K) k0 n0.out.wf).trans ((tA.mono jkK).trans (tB.mono jkK))))
  replace hB:=hd_ hB;clear v0 k0 hA tA tB c0 p0;iterate 7 (refine Z6l rfl ?_;go_big_quiet_step (fail);refine wpQuiet_nil ?_)
  refine Z4j rfl (by kernel_rfl) ?_;intro K1 hK;go_simp
  refine hK _ _ (ChgC.refl _ _) ?_
  clear hK K1;iterate 3 (refine Z6l rfl ?_;go_big_quiet_step (fail);refine wpQuiet_nil ?_)
  refine Z4j rfl (by kernel_rfl) ?_;intro K1 hK;go_simp
  refine hK _ _ ((ChgC.refl _ _).set ⟨rfl,by simp⟩) ?_
  clear hK K1;refine Z6l rfl ?_;go_big_quiet_step (fail);refine wpQuiet_nil ?_;refine Z6l rfl ?_;go_big_quiet_step (fail);refine wpQuiet_nil ?_;refine Z4j rfl (by kernel_rfl) ?_;intro K1 hK;go_simp
  refine hK _ _ (((ChgC.refl _ _).set ⟨rfl,by simp⟩).set ⟨rfl,by simp⟩) ?_
  clear hK K1;refine Z0c ?_;go_wp2
  go_end0
  have e:R=({ s with denied:=max s.denied vi,again:=true },[]):=by rw [j0.out,hg.out];rfl
  rw [e]
  refine⟨rfl,?_⟩
  rw [List.append_nil]
  exact hB.out.stp (.refl a) hT.out
theorem Zcq (c:Nat) (h:NdO own K w a s out) (hok:Ok c s) (m:Ms) (sa:Option Addr) (sc:Nat) (hk:m.kind=3) (hp:pubE own w (.slice sa m.ents.length sc) m.ents) :
  Calls Tryz.prog 118 #[Z09 a.b,Z0w m (.slice sa m.ents.length sc)] w fun r w'=>r=.returned (.tuple #[])∧Stp own K w a w' (s.hears m).1 (out.map MsS.m++(s.hears m).2):=by
 obtain⟨k,f,t,b,vi,la,me,po,es,co,nu,cl,y⟩:=m
 dsimp only at *
 subst hk
 obtain⟨W0,l0⟩:∃ W,W=w.alloc (.cells #[.int .i64 3, .int .i64 f, .int .i64 t, .int .i64 b, .int .i64 vi, .int .i64 la, .int .i64 me, .int .i64 po, .slice sa es.length sc, .int .i64 co, .int .i64 nu, .int .i64 cl, .bool y] 37):=⟨_,rfl⟩
 have n0:Below w.heap.size w W0:=l0 ▸ (Below.refl _ _).alloc (Nat.le_refl _) _
 obtain⟨mb,o0⟩:∃ mb,mb=w.heap.size:=⟨_,rfl⟩
 have g0:W0.heap[mb]?=some (.cells #[.int .i64 3, .int .i64 f, .int .i64 t, .int .i64 b, .int .i64 vi, .int .i64 la, .int .i64 me, .int .i64 po, .slice sa es.length sc, .int .i64 co, .int .i64 nu, .int .i64 cl, .bool y] 37 (0,0)):=l0 ▸ o0 ▸ Z0a _ _
 have b0:=h.grow n0
 have hmo:own mb=0:=h.wf mb (by omega)
 have t0:=hd_ (Turn.grow (J:=JK K) (own:=own) n0 h.wf)
 obtain⟨R,hR⟩:∃ R,s.hears ⟨3,f,t,b,vi,la,me,po,es,co,nu,cl,y⟩=R:=⟨_,rfl⟩
 rw [hR]
 have k0:R=(match s.v with
  | some (view,l)=>if vi==view&&vi==s.dv then { s with v:=some (view,Zbx view s.n l ⟨f,la,es,co⟩) } else s
  | none=>s,[]):=by rw [← hR];rfl
 replace k0:=hd_ k0
 have v0:=b0.dv
 have i0:W0.cell? ⟨a.b,17,none⟩=some (Z3f a.v):=b0.c 17
 have c2:W0.cell? ⟨a.b,2,none⟩=some (.pointer (some ⟨a.dk,a.od,none⟩)):=b0.c 2
 have m0:=Z00 g0 0
 have m4:=Z00 g0 4
 simp only [List.getElem?_toArray,List.getElem?_cons_zero,List.getElem?_cons_succ] at m0 m4
 have f1:=b0.lt
 have h1:=Z04 g0
 have p0:=h.r.k16
 have c1:=hd_ (hp.turn (Turn.grow (J:=JK K) (own:=own) n0 h.wf) (jk0 p0))
 replace b0:=hd_ b0;replace g0:=hd_ g0;clear n0 hR hp
 go_enter Tryz.func118,Tryz.ntmps118
 go_upto_region 1 with (fail)
 rw [← l0,← o0]
 replace l0:=hd_ l0;replace h:=hd_ h;replace o0:=hd_ o0;go_upto_region 10 with (fail)
 have k2:=Z07 c2
 have k4:=Z07 m4
 have HV:Hid (∀ y,Calls Tryz.prog 60 #[.pointer (some ⟨a.dk,a.od,none⟩)] (Z1c W0 y) fun r w'=>r=.returned (.int .i64 s.dv)∧∃ z,w'=Z1c W0 z):=hd_ fun y=>Z0o (Z1m _ _ _ _ (Z07 v0 y))
 cases hsv:s.v with
 | none=>
   have e0:=h.out.vnone hsv
   rw [e0] at i0
   have x0:=Z07 i0
   refine Z08 (by kernel_rfl) (by kernel_rfl) ?_
   repeat (go_big_quiet_step (fail))
   refine wpQuiet_nil ?_
   intro w2 f0
   have a0:=Z0e f0
   have j0:=hd_ (b0.out.grow a0)
   have t2:=hd_ (t0.out.trans (Turn.grow (J:=JK K) a0 b0.out.wf))
   clear f0 a0;go_wp2
   go_end0
   have e:R=(s,[]):=by rw [k0.out,hsv]
   rw [e]
   refine⟨rfl,?_⟩
   rw [List.append_nil]
   exact j0.out.stp (.refl a) t2.out
 | some ul=>
   obtain⟨u,l⟩:=ul
   obtain⟨vb,e0⟩:=h.out.vsome hsv
   obtain⟨ls,z0,w0⟩:=b0.out.votes hsv e0
   rw [e0] at i0
   have x0:=Z07 i0
   have s0:=hd_ (hok.vt u l hsv)
   have HW:Hid (∀ y,Calls Tryz.prog 71 #[Z09 vb] (Z1c W0 y) fun r w'=>r=.returned (.int .i64 u)∧∃ z,w'=Z1c W0 z):=hd_ fun y=>Z0o (Z53 vb u s.n ls _ ((w0.grow (Z0s W0 y)).rd))
   replace hsv:=hd_ hsv;replace e0:=hd_ e0;clear z0 w0
   go_cut [72] (fun z wx=>z=.bool (vi==u&&vi==s.dv)∧Below W0.heap.size W0 wx)
   case first=>
    by_cases g1:vi=u
    ·have g1':(vi==u)=true:=by simpa using g1
     refine Z08 (by kernel_rfl) (by kernel_rfl) ?_
     repeat (go_big_quiet_step (first | (go_at_call 60;exact HV.out _) | (go_at_call 71;exact HW.out _)))
     refine wpQuiet_nil ?_
     intro w2 f0
     have a0:=hd_ (Z0e f0)
     clear f0;go_wp2_with fail
     go_meet
     exact⟨by rw [g1',g1,Bool.true_and],a0.out⟩
    ·have g1':(vi==u)=false:=by simpa using g1
     refine Z08 (by kernel_rfl) (by kernel_rfl) ?_
     repeat (go_big_quiet_step (first | (go_at_call 60;exact HV.out _) | (go_at_call 71;exact HW.out _)))
     refine wpQuiet_nil ?_
     intro w2 f0
     have a0:=hd_ (Z0e f0)
     clear f0;go_wp2_with fail
     go_meet
     exact⟨by rw [g1'];rfl,a0.out⟩
   case rest=>
    obtain⟨rfl,a0⟩:=hcut
    rename World=>w2
    obtain⟨g,hg⟩:∃ g,(vi==u&&vi==s.dv)=g:=⟨_,rfl⟩
    rw [hg]
    replace hg:=hd_ hg
    have j0:=hd_ (b0.out.grow a0)
    have t2':=Turn.grow (J:=JK K) a0 b0.out.wf
    have d1:=hd_ (c1.out.turn t2' (jk0 p0))
    have t2:=hd_ (t0.out.trans t2')
    have b1:=hd_ (Z02 g0.out a0)
    clear a0 k2 k4 x0 HV HW i0 c2 m0 m4 f1 h1 v0 t2'
    cases g
    case false=>
     go_wp2
     go_end0
     have e:R=(s,[]):=by rw [k0.out,hsv.out];show (if _ then _ else _,_)=_;rw [hg.out];rfl
     rw [e]
     refine⟨rfl,?_⟩
     rw [List.append_nil]
     exact j0.out.stp (.refl a) t2.out
    go_upto_region 11 with (fail)
    refine Z05 (fun _=>False) (.q 0 (.q 1 (.q 2 (.q 3 (.q 4 (.q 5 (.q 6 (.q 7 (.q 8 (.q 9 (.q 10 (.q 11 (.l 12 (.cut (.l 13 .fin))))))))))))))) (by kernel_rfl) (by kernel_rfl) ?_
    intro w3 r0 d0
    have c0:=j0.out.grow d0
    have a1:=c0.lt
    have h0:=Z02 b1.out d0
    have t3':=Turn.grow (J:=JK K) d0 j0.out.wf
    have e1:=hd_ (d1.out.turn t3' (jk0 p0))
    have t3:=hd_ (t2.out.trans t3')
    have u17:=Z01 (F:=fun _=>False) (b:=w3) (fun h=>h) (c0.c17 e0.out)
    have y1:=Z01 (F:=fun _=>False) (b:=w3) (fun h=>h) (show w3.cell? ⟨mb,1,none⟩=some (.int .i64 f) from Z00 h0 1)
    have y5:=Z01 (F:=fun _=>False) (b:=w3) (fun h=>h) (show w3.cell? ⟨mb,5,none⟩=some (.int .i64 la) from Z00 h0 5)
    have y8:=Z01 (F:=fun _=>False) (b:=w3) (fun h=>h) (show w3.cell? ⟨mb,8,none⟩=some (.slice sa es.length sc) from Z00 h0 8)
    have y9:=Z01 (F:=fun _=>False) (b:=w3) (fun h=>h) (show w3.cell? ⟨mb,9,none⟩=some (.int .i64 co) from Z00 h0 9)
    have hlm:=Z04 h0
    clear t3' h0;replace c0:=hd_ c0;clear r0;replace d0:=hd_ d0;iterate 12 (refine Z0n rfl ?_;go_big_quiet_step (fail);refine wpQuiet_nil ?_)
    refine Z0j rfl (by kernel_rfl) ?_;intro K1 hK;go_simp
    refine hK _ _ (Chg.refl _ _) ?_
    clear hK K1;refine Z0h Z1j ?_;refine Z0j rfl (by kernel_rfl) ?_;intro K1 hK;go_simp
    refine (ndVAdd c0.out hsv.out e0.out s0.out ⟨f,la,es,co⟩ _ e1.out.1).mono ?_
    rintro r w4 ⟨rfl,own4,q0,t4⟩
    refine hK _ _ (Z0l t4) ?_
    clear hK K1;refine Z0c ?_
    have y0:=hd_ (t3.out.trans t4)
    replace q0:=hd_ q0;clear t4;go_wp2
    go_end0
    have e:R=({ s with v:=some (u,Zbx u s.n l ⟨f,la,es,co⟩) },[]):=by rw [k0.out,hsv.out];show (if _ then _ else _,_)=_;rw [hg.out];rfl
    rw [e]
    refine⟨rfl,?_⟩
    rw [List.append_nil]
    exact q0.out.stp (.refl a) y0.out
end
end
section
open Go.RowKit
section
variable {own:Nat→Nat} {K:Nat} {w:World} {a:NdAt} {s:Nd} {out:List MsS}
theorem Z9g (c:Nat) (h:NdO own K w a s out) (hok:Ok c s) (m:Ms) (sa:Option Addr) (sc:Nat) (hl:out.length≤1000000) (hv0:0≤m.view) (hv1:m.view≤1099511627776) :
  Calls Tryz.prog 165 #[Z09 a.b,Z0w m (.slice sa m.ents.length sc)] w fun r w'=>r=.returned (.tuple #[])∧Stp own K w a w' (s.proposed m).1 (out.map MsS.m++(s.proposed m).2):=by
 obtain⟨k,f,t,b,vi,la,me,po,es,co,nu,cl,y⟩:=m
 dsimp only at *
 obtain⟨W0,x0⟩:∃ W,W=w.alloc (.cells #[.int .i64 k, .int .i64 f, .int .i64 t, .int .i64 b, .int .i64 vi, .int .i64 la, .int .i64 me, .int .i64 po, .slice sa es.length sc, .int .i64 co, .int .i64 nu, .int .i64 cl, .bool y] 37):=⟨_,rfl⟩
 have e1:Below w.heap.size w W0:=x0 ▸ (Below.refl _ _).alloc (Nat.le_refl _) _
 obtain⟨mb,d1⟩:∃ mb,mb=w.heap.size:=⟨_,rfl⟩
 have v0:W0.heap[mb]?=some (.cells #[.int .i64 k, .int .i64 f, .int .i64 t, .int .i64 b, .int .i64 vi, .int .i64 la, .int .i64 me, .int .i64 po, .slice sa es.length sc, .int .i64 co, .int .i64 nu, .int .i64 cl, .bool y] 37 (0,0)):=x0 ▸ d1 ▸ Z0a _ _
 have k0:=h.grow e1
 have x1:own mb=0:=h.wf mb (by omega)
 have t0:=hd_ (Turn.grow (J:=JK K) (own:=own) e1 h.wf)
 obtain⟨R,hR⟩:∃ R,s.proposed ⟨k,f,t,b,vi,la,me,po,es,co,nu,cl,y⟩=R:=⟨_,rfl⟩
 rw [hR]
 have q0:R=(if f != Z1y vi s.n then (s,[])
  else if s.dv<vi then
   if 1099511627776<vi then (s,[])
   else
    let s':={ s with dv:=vi,v:=none,again:=false,heard:=s.clock,pf:=s.pf.drop }
    (s',[s'.voteM ⟨k,f,t,b,vi,la,me,po,es,co,nu,cl,y⟩])
  else if vi<s.dv∨vi≤s.last then (s,[{ s.ms 2 f with view:=s.dv }])
  else (s,[s.voteM ⟨k,f,t,b,vi,la,me,po,es,co,nu,cl,y⟩])):=by rw [← hR];rfl
 replace q0:=hd_ q0
 have w1:=k0.dv
 have c2:W0.cell? ⟨a.b,2,none⟩=some (.pointer (some ⟨a.dk,a.od,none⟩)):=k0.c 2
 have c1:W0.cell? ⟨a.b,1,none⟩=some (.int .i64 s.n):=k0.c 1
 have m1:=Z00 v0 1
 have m4:=Z00 v0 4
 simp only [List.getElem?_toArray,List.getElem?_cons_zero,List.getElem?_cons_succ] at m1 m4
 have k2:=k0.lt
 have n2:=Z04 v0
 have d2:=h.r.k16
 have hma:mb≠a.b:=by have:=h.lt;omega
 replace k0:=hd_ k0;replace v0:=hd_ v0;clear e1 hR
 go_enter Tryz.func165,Tryz.ntmps165
 go_upto_region 1 with (fail)
 rw [← x0,← d1]
 replace x0:=hd_ x0;replace h:=hd_ h;replace d1:=hd_ d1;go_wp2_with fail
 refine (Z1m _ _ _ _ w1).mono ?_
 rintro r wz ⟨rfl,rfl⟩;go_upto_region 2 with (fail)
 have k1:=Z07 c1
 have k4:=Z07 m4
 have km:=Z07 m1
 have HD:Hid (∀ z,Calls Tryz.prog 89 #[.int .i64 vi, .int .i64 s.n] (Z1c W0 z) fun r w'=>r=.returned (.int .i64 (Z1y vi s.n))∧∃ x,w'=Z1c W0 x):=hd_ fun z=>Z0o (Z0p vi s.n _ (by omega) (by omega))
 refine Z08 (by kernel_rfl) (by kernel_rfl) ?_
 repeat (go_big_quiet_step (first | (go_at_call 89;exact HD.out _)))
 refine wpQuiet_nil ?_
 intro w2 y1
 have b1:=Z0e y1
 have m0:=hd_ (k0.out.grow b1)
 have t2:=hd_ (t0.out.trans (Turn.grow (J:=JK K) b1 k0.out.wf))
 have q1:=hd_ (Z02 v0.out b1)
 clear y1 b1 k1 k4 km HD c2 c1 m1 m4 k2 n2 w1
 by_cases hd:f=Z1y vi s.n
 case neg=>
  have s0:(f != Z1y vi s.n)=true:=by simpa using hd
  replace hd:=hd_ hd;go_wp2
  refine bodyPost_ret (results_none rfl _ _ _) rfl ?_
  have e:R=(s,[]):=by rw [q0.out];exact if_pos s0
  rw [e]
  refine⟨rfl,?_⟩
  rw [List.append_nil]
  exact m0.out.stp (.refl a) t2.out
 have s0:(f != Z1y vi s.n)=false:=by simpa using hd
 rw [s0]
 replace hd:=hd_ hd
 have h0:=q1.out
 have m1:=Z00 h0 1
 have m4:=Z00 h0 4
 simp only [List.getElem?_toArray,List.getElem?_cons_zero,List.getElem?_cons_succ] at m1 m4
 have a2:=Z04 h0
 have z1:=m0.out.lt
 clear h0
 by_cases hgt:s.dv<vi
 case pos=>
  have f2:vi > s.dv:=hgt
  have i2:¬ 1099511627776<vi:=by omega
  have e:R=({ s with dv:=vi,v:=none,again:=false,heard:=s.clock,pf:=s.pf.drop },[({ s with dv:=vi,v:=none,again:=false,heard:=s.clock,pf:=s.pf.drop }:Nd).voteM ⟨k,f,t,b,vi,la,me,po,es,co,nu,cl,y⟩]):=by
   rw [q0.out,s0,if_neg Bool.false_ne_true,if_pos hgt,if_neg i2]
  replace e:=hd_ e;go_upto_region 4 with (fail)
  refine Z05 (fun _=>False) (.q 0 (.q 1 (.q 2 (.q 3 (.q 4 (.q 5 (.cut (.l 6 (.q 7 .fin))))))))) (by kernel_rfl) (by kernel_rfl) ?_
  intro w3 l1 f0
  have e0:=m0.out.grow f0
  have u2:=Z01 (F:=fun _=>False) (b:=w3) (fun h=>h) (show w3.cell? ⟨a.b,2,none⟩=some (.pointer (some ⟨a.dk,a.od,none⟩)) from e0.c 2)
  have o1:=e0.lt
  have d0:=Z02 q1.out f0
  have k4:=Z01 (F:=fun _=>False) (b:=w3) (fun h=>h) (show w3.cell? ⟨mb,4,none⟩=some (.int .i64 vi) from Z00 d0 4)
  have n1:=Z04 d0
  have t3:=hd_ (t2.out.trans (Turn.grow (J:=JK K) f0 m0.out.wf))
  replace d0:=hd_ d0;replace e0:=hd_ e0;clear l1;replace f0:=hd_ f0;iterate 6 (refine Z0n rfl ?_;go_big_quiet_step (fail);refine wpQuiet_nil ?_)
  refine Z0h Z1j ?_;refine Z0j rfl (by kernel_rfl) ?_;intro K1 hK;go_simp
  refine (Z7c e0.out vi hgt hv1).mono ?_
  rintro r w4 ⟨rfl,c0,t4⟩
  refine hK _ _ (Z0l t4) ?_
  clear hK K1;refine Z0n rfl ?_;go_big_quiet_step (fail);refine wpQuiet_nil ?_;refine Z0c ?_
  have g2:=hd_ (t4.pub d0.out (by rw [x1];omega))
  have h1:=hd_ (t3.out.trans (t4.mono fun o e=>by unfold JK;omega))
  clear t4 u2 k4 n1 o1 m1 m4 a2 z1
  have c4:w4.cell? ⟨a.b,4,none⟩=some (.int .i64 s.clock):=c0.c 4
  have o2:w4.cell? ⟨a.b,17,none⟩=some (Z3f a.v):=c0.c 17
  have p2:w4.cell? ⟨a.b,19,none⟩=some (.bool s.again):=c0.c 19
  have q5:w4.cell? ⟨a.b,5,none⟩=some (.int .i64 s.heard):=c0.c 5
  have s2:=c0.free 17
  have v2:=c0.free 19
  have z5:=c0.free 5
  have l2:=c0.lt
  obtain⟨hA,tA⟩:=c0.s17n
  obtain⟨hB,tB⟩:=hA.s19 false
  obtain⟨hC,tC⟩:=hB.s5 s.clock
  have r1:=tC.pub (tB.pub (tA.pub g2.out (by omega)) (by omega)) (by omega)
  have i1:=h1.out.trans ((tA.mono jkK).trans ((tB.mono jkK).trans (tC.mono jkK)))
  obtain⟨W5,r0⟩:∃ W5,W5=((w4.setCell ⟨a.b,17,none⟩ (.pointer none)).setCell ⟨a.b,19,none⟩ (.bool false)).setCell ⟨a.b,5,none⟩ (.int .i64 s.clock):=⟨_,rfl⟩
  have w0:NdO own K W5 { a with v:=none } { s with dv:=vi,v:=none,again:=false,heard:=s.clock } out:=r0 ▸ hC
  replace r1:=hd_ (show W5.heap[mb]?=_ from r0 ▸ r1)
  replace i1:=hd_ (show Turn (JK K) own own w W5 from r0 ▸ i1)
  have b2:W5.cell? ⟨a.b,16,none⟩=some (Z09 a.f):=w0.c 16
  have m2:a.b<W5.heap.size:=w0.lt
  replace w0:=hd_ w0;clear hA hB hC tA tB tC;replace c0:=hd_ c0;go_upto_region 6 with (fail)
  rw [← r0]
  replace r0:=hd_ r0;clear c4 o2 p2 q5 s2 v2 z5 l2;go_wp2_with fail
  refine (Zii w0.out).mono ?_
  rintro r w6 ⟨rfl,own6,a1,t6⟩
  have t6:=t6.mono (J':=JK K) fun o e=>by unfold JK;omega
  have h2:=hd_ (t6.pub r1.out (by rw [x1];exact jk0 d2))
  have e2:=hd_ (i1.out.trans t6)
  replace a1:=hd_ a1;clear t6 b2 m2;go_upto_region 9 with (fail)
  refine Z05 (fun _=>False) (.q 0 (.q 1 (.q 2 (.q 3 (.q 4 (.q 5 (.q 6 (.q 7 (.q 8 (.q 9 (.q 10 (.q 11 (.q 12 (.q 14 (.q 15 (.q 16 (.q 17 (.l 13 (.l 18 (.cut (.l 19 .fin))))))))))))))))))))) (by kernel_rfl) (by kernel_rfl) ?_
  intro w7 o0 b0
  have a0:=a1.out.grow b0
  have u9:=Z01 (F:=fun _=>False) (b:=w7) (fun h=>h) (show w7.cell? ⟨a.b,9,none⟩=some (Z09 a.l) from a0.c 9)
  have q2:=Z01 (F:=fun _=>False) (b:=w7) (fun h=>h) (show w7.cell? ⟨a.b,10,none⟩=some (.int .i64 s.com) from a0.c 10)
  have r2:=Z01 (F:=fun _=>False) (b:=w7) (fun h=>h) (show w7.cell? ⟨a.b,11,none⟩=some (.int .i64 s.last) from a0.c 11)
  have p1:=a0.lt
  have i0:=Z02 h2.out b0
  have k1:=Z01 (F:=fun _=>False) (b:=w7) (fun h=>h) (show w7.cell? ⟨mb,1,none⟩=some (.int .i64 f) from Z00 i0 1)
  have k4:=Z01 (F:=fun _=>False) (b:=w7) (fun h=>h) (show w7.cell? ⟨mb,4,none⟩=some (.int .i64 vi) from Z00 i0 4)
  have n1:=Z04 i0
  clear i0;replace a0:=hd_ a0;clear o0;replace b0:=hd_ b0;iterate 17 (refine Z0n rfl ?_;go_big_quiet_step (fail);refine wpQuiet_nil ?_)
  refine Z0j rfl (by kernel_rfl) ?_;intro K1 hK;go_simp
  refine (Z19 a.l s.L 0 _ a0.out.r.lg.rd (by have:=hok.lg;omega)).mono ?_
  rintro r w8 ⟨v8,rfl,j0,g0⟩
  rw [Z9f] at j0
  obtain⟨s1,t1,rfl⟩:=j0.rd.len
  have p0:=hd_ (pubE.new (own:=own6) j0 a0.out.wf)
  have f1:=hd_ (a0.out.grow g0)
  have t8:=hd_ (e2.out.trans ((Turn.grow (J:=JK K) b0.out a1.out.wf).trans (Turn.grow (J:=JK K) g0 a0.out.wf)))
  clear j0
  refine hK _ _ (.of_below g0) ?_
  clear hK K1;refine Z0j rfl (by kernel_rfl) ?_;intro K1 hK;go_simp
  refine hK _ _ (.of_below g0) ?_
  clear hK K1;refine Z0h Z1j ?_;refine Z0j rfl (by kernel_rfl) ?_;intro K1 hK;go_simp
  refine (Z6n f1.out ⟨3,0,f,0,vi,s.last,0,0,s.L,s.com,0,0,false⟩ s1 t1 p0.out (by omega)).mono ?_
  rintro r w9 ⟨rfl,own9,a9,o9,n0,e9,f9,t9⟩
  refine hK _ _ (Z0l t9) ?_
  clear hK K1;refine Z0c ?_
  have j1:=hd_ (t8.out.trans t9)
  replace n0:=hd_ n0;replace e9:=hd_ e9;clear t9;go_wp2
  go_end0
  rw [e.out]
  exact⟨rfl,own9,a9,o9,n0.out,e9.out,⟨f9.b,f9.dk,f9.od,f9.cs,f9.T⟩,j1.out⟩
 have hle:¬ vi > s.dv:=hgt
 replace hgt:=hd_ hgt;go_upto_region 7 with (fail)
 have v1:w2.cell? ⟨a.b,11,none⟩=some (.int .i64 s.last):=m0.out.c 11
 have j2:=Z07 v1
 have k4:=Z07 m4
 go_cut [52] (fun z wx=>z=.bool (decide (vi<s.dv∨vi≤s.last))∧Below w2.heap.size w2 wx)
 case first=>
  by_cases g1:vi<s.dv
  ·have g1':decide (vi<s.dv)=true:=by simpa using g1
   refine Z08 (by kernel_rfl) (by kernel_rfl) ?_
   repeat (go_big_quiet_step (fail))
   refine wpQuiet_nil ?_
   intro w3 y0
   have l0:=hd_ (Z0e y0)
   clear y0;go_wp2_with fail
   go_meet
   exact⟨by simp [g1],l0.out⟩
  ·have g1':decide (vi<s.dv)=false:=by simpa using g1
   refine Z08 (by kernel_rfl) (by kernel_rfl) ?_
   repeat (go_big_quiet_step (fail))
   refine wpQuiet_nil ?_
   intro w3 y0
   have l0:=hd_ (Z0e y0)
   clear y0;go_wp2_with fail
   go_meet
   exact⟨congrArg Value.bool (decide_eq_decide.2 ⟨fun h=>.inr h,fun h=>h.elim (fun h=>absurd h (Int.not_lt.2 g1)) id⟩),l0.out⟩
 case rest=>
  obtain⟨rfl,l0⟩:=hcut
  rename World=>w3
  obtain⟨g,hg⟩:∃ g,decide (vi<s.dv∨vi≤s.last)=g:=⟨_,rfl⟩
  rw [hg]
  replace hg:=hd_ hg
  have z0:=hd_ (m0.out.grow l0)
  have t3:=hd_ (t2.out.trans (Turn.grow (J:=JK K) l0 m0.out.wf))
  have d0:=Z02 q1.out l0
  clear l0 j2 k4 v1 m1 m4 a2 z1
  have m1:=Z00 d0 1
  have m4:=Z00 d0 4
  simp only [List.getElem?_toArray,List.getElem?_cons_zero,List.getElem?_cons_succ] at m1 m4
  have lm3:=Z04 d0
  have la3:=z0.out.lt
  replace d0:=hd_ d0
  cases g
  case true=>
   have e:R=(s,[{ s.ms 2 f with view:=s.dv }]):=by
    rw [q0.out,s0,if_neg Bool.false_ne_true,if_neg hgt.out]
    exact if_pos (of_decide_eq_true hg.out)
   replace e:=hd_ e;go_wp2_with fail
   refine (Z6n z0.out ⟨2,0,f,0,s.dv,0,0,0,[],0,0,0,false⟩ none 0 (Z4e _ _) (by omega)).mono ?_
   rintro r w4 ⟨rfl,own4,a4,o4,c0,e4,f4,t4⟩
   have h1:=hd_ (t3.out.trans t4)
   replace c0:=hd_ c0;replace e4:=hd_ e4;clear t4;go_wp2
   refine bodyPost_ret (results_none rfl _ _ _) rfl ?_
   rw [e.out]
   exact⟨rfl,own4,a4,o4,c0.out,e4.out,f4,h1.out⟩
  have e:R=(s,[s.voteM ⟨k,f,t,b,vi,la,me,po,es,co,nu,cl,y⟩]):=by
   rw [q0.out,s0,if_neg Bool.false_ne_true,if_neg hgt.out]
   exact if_neg (of_decide_eq_false hg.out)
  replace e:=hd_ e;clear m1 m4;go_upto_region 9 with (fail)
  refine Z05 (fun _=>False) (.q 0 (.q 1 (.q 2 (.q 3 (.q 4 (.q 5 (.q 6 (.q 7 (.q 8 (.q 9 (.q 10 (.q 11 (.q 12 (.q 14 (.q 15 (.q 16 (.q 17 (.l 13 (.l 18 (.cut (.l 19 .fin))))))))))))))))))))) (by kernel_rfl) (by kernel_rfl) ?_
  intro w7 o0 b0
  have a0:=z0.out.grow b0
  have u9:=Z01 (F:=fun _=>False) (b:=w7) (fun h=>h) (show w7.cell? ⟨a.b,9,none⟩=some (Z09 a.l) from a0.c 9)
  have q2:=Z01 (F:=fun _=>False) (b:=w7) (fun h=>h) (show w7.cell? ⟨a.b,10,none⟩=some (.int .i64 s.com) from a0.c 10)
  have r2:=Z01 (F:=fun _=>False) (b:=w7) (fun h=>h) (show w7.cell? ⟨a.b,11,none⟩=some (.int .i64 s.last) from a0.c 11)
  have p1:=a0.lt
  have i0:=Z02 d0.out b0
  have k1:=Z01 (F:=fun _=>False) (b:=w7) (fun h=>h) (show w7.cell? ⟨mb,1,none⟩=some (.int .i64 f) from Z00 i0 1)
  have k4:=Z01 (F:=fun _=>False) (b:=w7) (fun h=>h) (show w7.cell? ⟨mb,4,none⟩=some (.int .i64 vi) from Z00 i0 4)
  have n1:=Z04 i0
  clear i0;replace a0:=hd_ a0;clear o0;replace b0:=hd_ b0;iterate 17 (refine Z0n rfl ?_;go_big_quiet_step (fail);refine wpQuiet_nil ?_)
  refine Z0j rfl (by kernel_rfl) ?_;intro K1 hK;go_simp
  refine (Z19 a.l s.L 0 _ a0.out.r.lg.rd (by have:=hok.lg;omega)).mono ?_
  rintro r w8 ⟨v8,rfl,j0,g0⟩
  rw [Z9f] at j0
  obtain⟨s1,t1,rfl⟩:=j0.rd.len
  have p0:=hd_ (pubE.new (own:=own) j0 a0.out.wf)
  have f1:=hd_ (a0.out.grow g0)
  have t8:=hd_ (t3.out.trans ((Turn.grow (J:=JK K) b0.out z0.out.wf).trans (Turn.grow (J:=JK K) g0 a0.out.wf)))
  clear j0
  refine hK _ _ (.of_below g0) ?_
  clear hK K1;refine Z0j rfl (by kernel_rfl) ?_;intro K1 hK;go_simp
  refine hK _ _ (.of_below g0) ?_
  clear hK K1;refine Z0h Z1j ?_;refine Z0j rfl (by kernel_rfl) ?_;intro K1 hK;go_simp
  refine (Z6n f1.out ⟨3,0,f,0,vi,s.last,0,0,s.L,s.com,0,0,false⟩ s1 t1 p0.out (by omega)).mono ?_
  rintro r w9 ⟨rfl,own9,a9,o9,n0,e9,f9,t9⟩
  refine hK _ _ (Z0l t9) ?_
  clear hK K1;refine Z0c ?_
  have j1:=hd_ (t8.out.trans t9)
  replace n0:=hd_ n0;replace e9:=hd_ e9;clear t9;go_wp2
  go_end0
  rw [e.out]
  exact⟨rfl,own9,a9,o9,n0.out,e9.out,⟨f9.b,f9.dk,f9.od,f9.cs,f9.T⟩,j1.out⟩
theorem Zcr (c:Nat) (h:NdO own K w a s out) (hok:Ok c s) (m:Ms) (sa:Option Addr) (sc:Nat) (hk:m.kind=1) (hl:out.length≤1000000) (hv0:0≤m.view) (hv1:m.view≤1099511627776) :
  Calls Tryz.prog 118 #[Z09 a.b,Z0w m (.slice sa m.ents.length sc)] w fun r w'=>r=.returned (.tuple #[])∧Stp own K w a w' (s.hears m).1 (out.map MsS.m++(s.hears m).2):=by
 obtain⟨k,f,t,b,vi,la,me,po,es,co,nu,cl,y⟩:=m
 dsimp only at *
 subst hk
 obtain⟨W0,c0⟩:∃ W,W=w.alloc (.cells #[.int .i64 1, .int .i64 f, .int .i64 t, .int .i64 b, .int .i64 vi, .int .i64 la, .int .i64 me, .int .i64 po, .slice sa es.length sc, .int .i64 co, .int .i64 nu, .int .i64 cl, .bool y] 37):=⟨_,rfl⟩
 have d0:Below w.heap.size w W0:=c0 ▸ (Below.refl _ _).alloc (Nat.le_refl _) _
 obtain⟨mb,e0⟩:∃ mb,mb=w.heap.size:=⟨_,rfl⟩
 have a0:W0.heap[mb]?=some (.cells #[.int .i64 1, .int .i64 f, .int .i64 t, .int .i64 b, .int .i64 vi, .int .i64 la, .int .i64 me, .int .i64 po, .slice sa es.length sc, .int .i64 co, .int .i64 nu, .int .i64 cl, .bool y] 37 (0,0)):=c0 ▸ e0 ▸ Z0a _ _
 have f0:=h.grow d0
 have hmo:own mb=0:=h.wf mb (by omega)
 have t0:=hd_ (Turn.grow (J:=JK K) (own:=own) d0 h.wf)
 have b0:=hd_ (Z9g c f0 hok ⟨1,f,t,b,vi,la,me,po,es,co,nu,cl,y⟩ sa sc hl hv0 hv1)
 have h0:s.hears ⟨1,f,t,b,vi,la,me,po,es,co,nu,cl,y⟩=s.proposed ⟨1,f,t,b,vi,la,me,po,es,co,nu,cl,y⟩:=rfl
 rw [h0]
 obtain⟨R,hR⟩:∃ R,s.proposed ⟨1,f,t,b,vi,la,me,po,es,co,nu,cl,y⟩=R:=⟨_,rfl⟩
 rw [hR] at b0 ⊢
 have m0:=Z00 a0 0
 have m1:=Z00 a0 1
 have m2:=Z00 a0 2
 have m3:=Z00 a0 3
 have m4:=Z00 a0 4
 have m5:=Z00 a0 5
 have m6:=Z00 a0 6
 have m7:=Z00 a0 7
 have m8:=Z00 a0 8
 have m9:=Z00 a0 9
 have m10:=Z00 a0 10
 have m11:=Z00 a0 11
 have m12:=Z00 a0 12
 simp only [List.getElem?_toArray,List.getElem?_cons_zero,List.getElem?_cons_succ] at m0 m1 m2 m3 m4 m5 m6 m7 m8 m9 m10 m11 m12
 have lm0:=Z04 a0
 clear hR h0;replace a0:=hd_ a0;replace f0:=hd_ f0;replace d0:=hd_ d0
 go_enter Tryz.func118,Tryz.ntmps118
 go_upto_region 1 with (fail)
 rw [← c0,← e0]
 replace c0:=hd_ c0;replace h:=hd_ h;replace e0:=hd_ e0;go_wp2_with fail
 refine b0.out.mono ?_
 rintro r w1 ⟨rfl,i0⟩
 have g0:=hd_ (i0.after (.refl a) t0.out)
 clear i0 b0;go_wp2
 go_end0
 exact⟨rfl,g0.out⟩
end
end
section
open Go.RowKit
def Nd.heard_ (s:Nd) (m:Ms):Nd:={ s with boots:=s.boots.set m.frm.toNat m.boot }
def Nd.hear0 (s:Nd) (m:Ms):Nd × List Ms:=if m.kind==12 then (s,[{ s.ms 13 m.frm with num:=m.num,clock:=s.clock }]) else if !s.knows then s.state m else s.hears m
section
variable {own:Nat→Nat} {K:Nat} {w:World} {a:NdAt} {s:Nd} {out:List MsS}
theorem xHear_of {P:(Nat→Nat)→World→Nd→Prop} (hS:SetOk P) (h:NdO own K w a s []) (v:Value) (m:Ms) (hb:rdB w v (Z4w m)) (hm:MayM m)
  (hP:m.too=s.id→¬ m.boot<s.boots.getD m.frm.toNat 0→∀ own1 w1,Turn (JK K) own own1 w w1→P own1 w1 ((s.heard_ m).hear0 m).1)
  (HS:m.kind≠12→s.knows=false→∀ own1 w1 sa sc,NdO own1 K w1 a (s.heard_ m) []→pubE own1 w1 (.slice sa m.ents.length sc) m.ents→Calls Tryz.prog 117 #[Z09 a.b,Z0w m (.slice sa m.ents.length sc)] w1 fun r w'=>r=.returned (.tuple #[])∧Stp own1 K w1 a w' ((s.heard_ m).state m).1 ((s.heard_ m).state m).2)
  (HH:m.kind≠12→s.knows=true→∀ own1 w1 sa sc,NdO own1 K w1 a (s.heard_ m) []→pubE own1 w1 (.slice sa m.ents.length sc) m.ents→Calls Tryz.prog 118 #[Z09 a.b,Z0w m (.slice sa m.ents.length sc)] w1 fun r w'=>r=.returned (.tuple #[])∧Stp own1 K w1 a w' ((s.heard_ m).hears m).1 ((s.heard_ m).hears m).2) :
  Calls Tryz.prog 68 #[Z09 a.b,v] w fun r w'=>∃ v',r=.returned v'∧((s.hear m=(s,[])∧v'=.slice none 0 0∧NdO own K w' a s []∧Turn (JK K) own own w w')∨Zfx own K w a w' (s.hear m).1 (s.hear m).2 v'):=by
 have z1:=h.r.k16
 obtain⟨x1,r1⟩:=h.r.gm
 have c6:w.cell? ⟨a.b,6,none⟩=some (Z09 a.g):=h.c 6
 have la:=h.lt
 have HG:=hd_ (Zis a.g s.id s.boots v m w r1 hb hm)
 replace h:=hd_ h;replace hP:=hd_ hP;replace HS:=hd_ HS;replace HH:=hd_ HH
 obtain⟨k,f,t,b,vi,k0,me,po,es,co,nu,cl,y⟩:=m
 dsimp only at *
 obtain⟨R,hR⟩:∃ R,s.hear ⟨k,f,t,b,vi,k0,me,po,es,co,nu,cl,y⟩=R:=⟨_,rfl⟩
 rw [hR]
 replace hR:=hd_ hR;clear r1
 go_enter Tryz.func68,Tryz.ntmps68
 go_wp2_with fail
 refine HG.out.mono ?_
 rintro r w1 hG
 rcases hG with ⟨n1,rfl,v0⟩ | ⟨n1,n2,rfl,v0⟩ | ⟨n1,n2,sa,sc,rfl,c1,h1,q1⟩
 ·have e:R=(s,[]):=by
   rw [← hR.out];unfold Nd.hear
   have:(t != s.id)=true:=by simpa using n1
   rw [if_pos (by show ((t != s.id)||_)=true;rw [this];rfl)]
  have o0:=hd_ (h.out.grow v0)
  have t1:=hd_ (Turn.grow (J:=JK K) (own:=own) v0 h.out.wf)
  replace e:=hd_ e;clear v0 HG;replace n1:=hd_ n1;go_wp2
  go_ret
  exact⟨_,rfl, .inl ⟨e.out,rfl,o0.out.grow ((Below.refl _ _).alloc (Nat.le_refl _) _),t1.out.trans (.grow ((Below.refl _ _).alloc (Nat.le_refl _) _) o0.out.wf)⟩⟩
 ·have e:R=(s,[]):=by
   rw [← hR.out];unfold Nd.hear
   have:decide (b<s.boots.getD f.toNat 0)=true:=decide_eq_true n2
   rw [if_pos (by show (_||decide (b<s.boots.getD f.toNat 0))=true;rw [this,Bool.or_true])]
  have o0:=hd_ (h.out.grow v0)
  have t1:=hd_ (Turn.grow (J:=JK K) (own:=own) v0 h.out.wf)
  replace e:=hd_ e;clear v0 HG;replace n1:=hd_ n1;replace n2:=hd_ n2;go_wp2
  go_ret
  exact⟨_,rfl, .inl ⟨e.out,rfl,o0.out.grow ((Below.refl _ _).alloc (Nat.le_refl _) _),t1.out.trans (.grow ((Below.refl _ _).alloc (Nat.le_refl _) _) o0.out.wf)⟩⟩
 replace n1:t=s.id:=n1
 replace n2:¬ b<s.boots.getD f.toNat 0:=n2
 replace c1:gmO w1 a.g s.id (s.boots.set f.toNat b):=c1
 replace h1:ownE w1 w.heap.size 134 (.slice sa es.length sc) es:=h1
 obtain⟨s1,l0⟩:∃ s1,s.heard_ ⟨k,f,t,b,vi,k0,me,po,es,co,nu,cl,y⟩=s1:=⟨_,rfl⟩
 have p1:R=((s1.hear0 ⟨k,f,t,b,vi,k0,me,po,es,co,nu,cl,y⟩).1.settle,(s1.hear0 ⟨k,f,t,b,vi,k0,me,po,es,co,nu,cl,y⟩).2):=by
  rw [← hR.out,← l0]
  unfold Nd.hear
  have g1:(t != s.id)=false:=by simpa using n1
  have g2:decide (b<s.boots.getD f.toNat 0)=false:=decide_eq_false n2
  rw [if_neg (by show ¬ ((t != s.id)||decide (b<s.boots.getD f.toNat 0))=true;rw [g1,g2];exact Bool.false_ne_true)]
  rfl
 have b1:=hP.out n1 (by omega)
 rw [l0] at b1
 have d1:s1.knows=s.knows:=by rw [← l0];rfl
 have h0:s1.clock=s.clock:=by rw [← l0];rfl
 have z0:s1.id=s.id:=by rw [← l0];rfl
 have y0:s1.boot=s.boot:=by rw [← l0];rfl
 replace n1:=hd_ n1;replace n2:=hd_ n2
 have tg:Turn (fun o=>o=K+1) own own w w1:=.same (q1.mono fun k _ e=>by rw [show k=a.g from e];exact x1) h.out.wf
 have o0:NdO own K w1 a s1 []:=by
  rw [← l0]
  exact⟨tg.pub h.out.blk (by rw [h.out.r.ob];omega),h.out.ears,h.out.r.putG (tg.mono fun o e=>.inr e) ⟨x1,c1⟩⟩
 have t1:=hd_ (tg.mono (J':=JK K) fun o e=>by unfold JK;omega)
 have y1:pubE own w1 (.slice sa es.length sc) es:=pubE.new h1 h.out.wf
 obtain⟨Q,hQ⟩:∃ Q,s1.hear0 ⟨k,f,t,b,vi,k0,me,po,es,co,nu,cl,y⟩=Q:=⟨_,rfl⟩
 rw [hQ] at p1 b1
 subst p1;replace hR:=hd_ hR
 obtain⟨W2,x0⟩:∃ W2,W2=w1.alloc (.cells #[.int .i64 k, .int .i64 f, .int .i64 t, .int .i64 b, .int .i64 vi, .int .i64 k0, .int .i64 me, .int .i64 po, .slice sa es.length sc, .int .i64 co, .int .i64 nu, .int .i64 cl, .bool y] 37):=⟨_,rfl⟩
 have i1:Below w1.heap.size w1 W2:=x0 ▸ (Below.refl _ _).alloc (Nat.le_refl _) _
 obtain⟨mb,f1⟩:∃ mb,mb=w1.heap.size:=⟨_,rfl⟩
 have q0:W2.heap[mb]?=some (.cells #[.int .i64 k, .int .i64 f, .int .i64 t, .int .i64 b, .int .i64 vi, .int .i64 k0, .int .i64 me, .int .i64 po, .slice sa es.length sc, .int .i64 co, .int .i64 nu, .int .i64 cl, .bool y] 37 (0,0)):=x0 ▸ f1 ▸ Z0a _ _
 have p0:=o0.grow i1
 have t2':=Turn.grow (J:=JK K) (own:=own) i1 o0.wf
 have a1:=hd_ (y1.turn t2' (jk0 z1))
 have t2:=hd_ (t1.out.trans t2')
 have m0:=Z00 q0 0
 have m1:=Z00 q0 1
 have m10:=Z00 q0 10
 simp only [List.getElem?_toArray,List.getElem?_cons_zero,List.getElem?_cons_succ] at m0 m1 m10
 have lm2:=Z04 q0
 have la2:=p0.lt
 have c4:W2.cell? ⟨a.b,4,none⟩=some (.int .i64 s.clock):=by rw [← h0];exact p0.c 4
 have c8:W2.cell? ⟨a.b,8,none⟩=some (.bool s.knows):=by rw [← d1];exact p0.c 8
 have w0:Q=if k==12 then (s1,[{ s1.ms 13 f with num:=nu,clock:=s.clock }]) else if !s.knows then s1.state ⟨k,f,t,b,vi,k0,me,po,es,co,nu,cl,y⟩ else s1.hears ⟨k,f,t,b,vi,k0,me,po,es,co,nu,cl,y⟩:=by
  rw [← hQ,← d1,← h0];rfl
 replace w0:=hd_ w0;replace hP:=hd_ b1;replace q0:=hd_ q0;replace p0:=hd_ p0
 rw [l0] at HS HH
 have c2:=hd_ l0
 clear hQ i1 b1 o0 y1 h1 c1 q1 tg t2' c6 la HG l0;replace d1:=hd_ d1;replace h0:=hd_ h0;replace z0:=hd_ z0;replace y0:=hd_ y0;go_upto_region 4 with (fail)
 rw [← x0,← f1]
 replace x0:=hd_ x0;replace f1:=hd_ f1
 by_cases hk:k=12
 case pos=>
  subst hk;go_upto_region 8 with (fail)
  refine Z05 (fun _=>False) (.q 0 (.q 1 (.q 2 (.q 3 (.q 4 (.q 5 (.q 6 (.q 7 (.q 8 (.l 9 (.cut (.l 10 .fin)))))))))))) (by kernel_rfl) (by kernel_rfl) ?_
  intro w3 j1 g0
  have e0:=p0.out.grow g0
  have l1:=e0.lt
  have e1:=Z02 q0.out g0
  have k4:=Z01 (F:=fun _=>False) (b:=w3) (fun h=>h) (show w3.cell? ⟨a.b,4,none⟩=some (.int .i64 s.clock) from by rw [← h0.out];exact e0.c 4)
  have k1:=Z01 (F:=fun _=>False) (b:=w3) (fun h=>h) (show w3.cell? ⟨mb,1,none⟩=some (.int .i64 f) from Z00 e1 1)
  have d2:=Z01 (F:=fun _=>False) (b:=w3) (fun h=>h) (show w3.cell? ⟨mb,10,none⟩=some (.int .i64 nu) from Z00 e1 10)
  have b2:=Z04 e1
  have t3:=hd_ (t2.out.trans (Turn.grow (J:=JK K) g0 p0.out.wf))
  clear e1;replace e0:=hd_ e0;clear j1;replace g0:=hd_ g0;iterate 9 (refine Z0n rfl ?_;go_big_quiet_step (fail);refine wpQuiet_nil ?_)
  refine Z0j rfl (by kernel_rfl) ?_;intro K1 hK;go_simp
  refine hK _ _ (Chg.refl _ _) ?_
  clear hK K1;refine Z0h Z1j ?_;refine Z0j rfl (by kernel_rfl) ?_;intro K1 hK;go_simp
  refine (Z6n e0.out ⟨13,0,f,0,0,0,0,0,[],0,nu,s.clock,false⟩ none 0 (Z4e _ _) (Nat.zero_le _)).mono ?_
  rintro r w4 ⟨rfl,own4,a4,o4,o1,e4,f4,t4⟩
  refine hK _ _ (Z0l t4) ?_
  clear hK K1;refine Z0c ?_
  have n0:Stp own K w3 a w4 Q.1 Q.2:=by
   rw [w0.out]
   exact⟨own4,a4,o4,o1,e4,f4,t4⟩
  clear o1 e4 f4 t4 k4 k1 d2 b2 l1 m0 m1 m10 c4 c8
  obtain⟨R,a2⟩:∃ R,Q=R:=⟨_,rfl⟩
  subst a2
  have j0:=n0.after (.refl a) t3.out
  obtain⟨ownz,az,oz,f0,ez,fz,tz⟩:=j0
  have s0:=fz.b
  replace f0:=hd_ f0;replace ez:=hd_ ez;replace fz:=hd_ fz;replace tz:=hd_ tz;clear n0;go_wp2_with fail
  have hD:=Z3m hS f0.out (hP.out _ _ tz.out)
  rw [s0] at hD
  refine hD.mono ?_
  rintro r wz ⟨rfl,ownd,r0,td,t0⟩
  have i0:Hid (Zfx own K w a wz Q.1.settle Q.2 az.ov):=hd_ ⟨ownd,_,_,r0,fz.out.trans ⟨s0.symm,rfl,rfl,rfl,rfl⟩,tz.out.trans td,t0,ez.out,rfl⟩
  clear r0 td t0 hD;go_wp2
  go_ret
  exact⟨_,rfl, .inr i0.out⟩
 have v1:(k==12)=false:=by simpa using hk
 replace hk:=hd_ hk
 obtain⟨kn,b0⟩:∃ kn,s.knows=kn:=⟨_,rfl⟩
 rw [b0] at c8
 cases kn
 case false=>
  have c0:=hd_ (HS.out hk.out b0 own W2 sa sc p0.out a1.out)
  have a0:=q0.out
  have m2:=Z00 a0 2
  have m3:=Z00 a0 3
  have m4:=Z00 a0 4
  have m5:=Z00 a0 5
  have m6:=Z00 a0 6
  have m7:=Z00 a0 7
  have m8:=Z00 a0 8
  have m9:=Z00 a0 9
  have m11:=Z00 a0 11
  have m12:=Z00 a0 12
  simp only [List.getElem?_toArray,List.getElem?_cons_zero,List.getElem?_cons_succ] at m2 m3 m4 m5 m6 m7 m8 m9 m11 m12
  clear a0
  have d0:Q=s1.state ⟨k,f,t,b,vi,k0,me,po,es,co,nu,cl,y⟩:=by rw [w0.out,v1,b0];rfl
  replace d0:=hd_ d0;replace b0:=hd_ b0;go_wp2_with fail
  refine c0.out.mono ?_
  rintro r w3 ⟨rfl,n0⟩
  rw [← d0.out] at n0
  clear c0
  have j0:=n0.after (.refl a) t2.out
  obtain⟨ownz,az,oz,f0,ez,fz,tz⟩:=j0
  have s0:=fz.b
  replace f0:=hd_ f0;replace ez:=hd_ ez;replace fz:=hd_ fz;replace tz:=hd_ tz;clear n0;go_wp2_with fail
  have hD:=Z3m hS f0.out (hP.out _ _ tz.out)
  rw [s0] at hD
  refine hD.mono ?_
  rintro r wz ⟨rfl,ownd,r0,td,t0⟩
  have i0:Hid (Zfx own K w a wz Q.1.settle Q.2 az.ov):=hd_ ⟨ownd,_,_,r0,fz.out.trans ⟨s0.symm,rfl,rfl,rfl,rfl⟩,tz.out.trans td,t0,ez.out,rfl⟩
  clear r0 td t0 hD;go_wp2
  go_ret
  exact⟨_,rfl, .inr i0.out⟩
 case true=>
  have c0:=hd_ (HH.out hk.out b0 own W2 sa sc p0.out a1.out)
  have a0:=q0.out
  have m2:=Z00 a0 2
  have m3:=Z00 a0 3
  have m4:=Z00 a0 4
  have m5:=Z00 a0 5
  have m6:=Z00 a0 6
  have m7:=Z00 a0 7
  have m8:=Z00 a0 8
  have m9:=Z00 a0 9
  have m11:=Z00 a0 11
  have m12:=Z00 a0 12
  simp only [List.getElem?_toArray,List.getElem?_cons_zero,List.getElem?_cons_succ] at m2 m3 m4 m5 m6 m7 m8 m9 m11 m12
  clear a0
  have d0:Q=s1.hears ⟨k,f,t,b,vi,k0,me,po,es,co,nu,cl,y⟩:=by rw [w0.out,v1,b0];rfl
  replace d0:=hd_ d0;replace b0:=hd_ b0;go_wp2_with fail
  refine c0.out.mono ?_
  rintro r w3 ⟨rfl,n0⟩
  rw [← d0.out] at n0
  clear c0
  have j0:=n0.after (.refl a) t2.out
  obtain⟨ownz,az,oz,f0,ez,fz,tz⟩:=j0
  have s0:=fz.b
  replace f0:=hd_ f0;replace ez:=hd_ ez;replace fz:=hd_ fz;replace tz:=hd_ tz;clear n0;go_wp2_with fail
  have hD:=Z3m hS f0.out (hP.out _ _ tz.out)
  rw [s0] at hD
  refine hD.mono ?_
  rintro r wz ⟨rfl,ownd,r0,td,t0⟩
  have i0:Hid (Zfx own K w a wz Q.1.settle Q.2 az.ov):=hd_ ⟨ownd,_,_,r0,fz.out.trans ⟨s0.symm,rfl,rfl,rfl,rfl⟩,tz.out.trans td,t0,ez.out,rfl⟩
  clear r0 td t0 hD;go_wp2
  go_ret
  exact⟨_,rfl, .inr i0.out⟩
end
end
section
open Go.RowKit
def Z7z (own:Nat→Nat) (K:Nat):Nat→Nat:=fun c=>if own c=K+12 then 0 else own c
theorem Z1s {own:Nat→Nat} {K c j:Nat} (h:own c=j) (hj:j≠K+12):Z7z own K c=j:=by unfold Z7z;rw [if_neg (by omega)];exact h
theorem Zas {own:Nat→Nat} {K c:Nat} (h:own c=0) (hk:16≤K):Z7z own K c=0:=Z1s h (by omega)
theorem Is.rel {own:Nat→Nat} {K j:Nat} (hj:j≠K+12):∀ k,Is own j k→Is (Z7z own K) j k:=fun k h=>Z1s h hj
section
variable {own:Nat→Nat} {K:Nat} {w:World} {a:NdAt} {s:Nd}
theorem NdR.rel (h:NdR own K w a s []) (ho:a.ov=.slice none 0 0):NdR (Z7z own K) K w a s []:=by
 have hk:=h.k16
 refine⟨fun c hc=>Zas (h.wf c hc) hk,hk,Z1s h.ob (by omega),Z1s h.odk (by omega),h.dsz,h.dsk,⟨Z1s h.gm.1 (by omega),h.gm.2⟩,fun e e2=>⟨Z1s (h.jn e e2).1 (by omega),(h.jn e e2).2⟩,
  h.lg.mono (Is.rel (by omega)),h.pn.mono (Is.rel (by omega)),h.rq.mono (Is.rel (by omega)),⟨Z1s h.tt.1 (by omega),Z1s h.tt.2.1 (by omega),h.tt.2.2⟩,h.pf.mono (Is.rel (by omega)),?_,?_,⟨h.ask.1,fun k hk'=>Z1s (h.ask.2 k hk') (by omega)⟩,?_⟩
 ·have hv:=h.vt
  match hs:s.v,ha:a.v with
  | none,none=>trivial
  | some (u,l),some vb=>
    rw [hs,ha] at hv
    obtain⟨ls,e,hv⟩:=hv
    refine⟨ls,e,hv.monoF (Is.rel (by omega)) (Is.rel (by omega)) fun k h1 h2=>?_⟩
    have h1:Z7z own K k=K+8:=h1
    have h2:Z7z own K k=K+9:=h2
    omega
  | none,some _=>rw [hs,ha] at hv;exact hv.elim
  | some (_,_),none=>rw [hs,ha] at hv;exact hv.elim
 ·have hq:=h.qm
  match hs:s.q,ha:a.qb with
  | none,none=>trivial
  | some q,some qb=>rw [hs,ha] at hq;exact⟨Z1s hq.1 (by omega),hq.2⟩
  | none,some _=>rw [hs,ha] at hq;exact hq.elim
  | some _,none=>rw [hs,ha] at hq;exact hq.elim
 ·rw [ho]
  exact⟨Z12 _ _ _ _,fun k hk=>(by cases hk),fun x hx=>(by cases hx)⟩
end
structure pubM (own:Nat→Nat) (w:World) (v:Value) (o:List MsS):Prop where
 rd:rdS 13 (atG Z23) w v o
 pub:∀ k,v.ownBlock=some k→own k=0∧k<w.heap.size
 ents:∀ x ∈ o,pubE own w x.s x.m.ents
structure Keeps (own own':Nat→Nat) (w w':World):Prop where
 size:w.heap.size≤w'.heap.size
 keep:∀ c,c<w.heap.size→own c=0→own' c=0∧w'.heap[c]?=w.heap[c]?
theorem Keeps.refl (own:Nat→Nat) (w:World):Keeps own own w w:=⟨Nat.le_refl _,fun c _ h=>⟨h,rfl⟩⟩
theorem Keeps.trans {o1 o2 o3:Nat→Nat} {a b c:World} (h:Keeps o1 o2 a b) (k:Keeps o2 o3 b c):Keeps o1 o3 a c:=
 ⟨Nat.le_trans h.size k.size,fun x hx ho=>by
  obtain⟨h1,h2⟩:=h.keep x hx ho
  obtain⟨k1,k2⟩:=k.keep x (Nat.lt_of_lt_of_le hx h.size) h1
  exact⟨k1,k2.trans h2⟩⟩
theorem pubM.keep {own own':Nat→Nat} {w w':World} {v:Value} {o:List MsS} (h:pubM own w v o) (k:Keeps own own' w w'):pubM own' w' v o:=
 ⟨rdG.same Z23 h.rd fun c hc hl=>(k.keep c hl (h.pub c hc).1).2,fun c hc=>⟨(k.keep c (h.pub c hc).2 (h.pub c hc).1).1,Nat.lt_of_lt_of_le (h.pub c hc).2 k.size⟩,fun x hx=>by
  obtain⟨h1,h2⟩:=h.ents x hx
  exact⟨h1.kept fun h0 c hc hl=>(k.keep c hl (h2 h0 c hc)).2,fun h0 c hc=>by
   obtain⟨a,cap,e,_,_,ha⟩:=h1
   rw [e] at hc
   obtain⟨b,off,e2,hcl⟩:=ha h0
   rw [e2] at hc
   have hbc:some b=some c:=hc
   injection hbc with hbc
   have hl:=(hcl 0 h0).lt
   exact (k.keep c (hbc ▸ hl) (h2 h0 c (by rw [e,e2];exact hc))).1⟩⟩
structure PX (own:Nat→Nat) (w0 w:World) (b dk:Nat) (s:Nd):Prop where
 low:∀ c,c<w0.heap.size→own c=0
 bel:Below w0.heap.size w0 w
 nd:∃ a,NdO own 16 w a s []∧a.b=b∧a.dk=dk∧a.od=0∧a.ov=.slice none 0 0
theorem PX.wf {own:Nat→Nat} {w0 w:World} {b dk:Nat} {s:Nd} (h:PX own w0 w b dk s):∀ c,w.heap.size≤c→own c=0:=by
 obtain⟨a,ha,_⟩:=h.nd
 exact ha.wf
theorem PX.grow {own:Nat→Nat} {w0 w w':World} {b dk:Nat} {s:Nd} (h:PX own w0 w b dk s) (hb:Below w.heap.size w w'):PX own w0 w' b dk s∧Keeps own own w w':=by
 obtain⟨a,ha,e⟩:=h.nd
 exact⟨⟨h.low,h.bel.trans (hb.mono h.bel.size),a,ha.grow hb,e⟩,hb.size,fun c hc ho=>⟨ho,hb.block c hc⟩⟩
theorem chg_low {own:Nat→Nat} {w0 w w':World} (hl:∀ c,c<w0.heap.size→own c=0) (hb:Below w0.heap.size w0 w) (hc:Chg (fun c=>JK 16 (own c)) w w'):Below w0.heap.size w0 w':=
 hb.trans ⟨hc.os,hc.tape,hc.output,hc.size,fun k hk=>hc.block k (Nat.lt_of_lt_of_le hk hb.size) (by rw [hl k hk];exact jk0 (by omega))⟩
theorem PX.done {own own':Nat→Nat} {w0 w w':World} {b dk:Nat} {s s':Nd} {a a':NdAt} (h:PX own w0 w b dk s) (hN:NdO own 16 w a s []) (hab:a.b=b) (had:a.dk=dk) (hao:a.od=0) (h':NdO own' 16 w' a' s' []) (hov:a'.ov=.slice none 0 0) (e:At0 a a') (t:Turn (JK 16) own own' w w') :
  PX (Z7z own' 16) w0 w' b dk s'∧Keeps own (Z7z own' 16) w w':=by
 refine⟨⟨fun c hc=>?_,chg_low h.low h.bel t.chg,a',⟨h'.blk,h'.ears,h'.r.rel hov⟩,e.b.trans hab,e.dk.trans had,e.od.trans hao,hov⟩,t.chg.size,fun c hc ho=>⟨Zas ((t.old c hc).trans ho) (Nat.le_refl _),t.chg.block c hc (by rw [ho];exact jk0 (Nat.le_refl _))⟩⟩
 exact Zas ((t.old c (Nat.lt_of_lt_of_le hc h.bel.size)).trans (h.low c hc)) (Nat.le_refl _)
theorem Given.pub {own:Nat→Nat} {w:World} {v:Value} {o:List MsS} (h:Given own 16 w v o):pubM (Z7z own 16) w v o:=
 ⟨h.row.rd Z23,fun k hk=>⟨by unfold Z7z;rw [if_pos (h.blk k hk)],(h.row.lt Z23 k hk).2⟩,fun x hx=>⟨(h.ents x hx).1,fun h0 k hk=>Zas ((h.ents x hx).2 h0 k hk) (Nat.le_refl _)⟩⟩
end
section
open Go.RowKit
theorem Ok.settle {c:Nat} {s:Nd} (h:Ok c s):Ok c s.settle:={ h with }
theorem Ok.up {c d:Nat} {s:Nd} (h:Ok c s) (hd:c≤d):Ok d s:={ h with c1:=by have:=h.c1;omega,q1:=by have:=h.q1;omega }
theorem Ok.clk {c:Nat} {s:Nd} (h:Ok c s):Ok (c+1) { s with clock:=s.clock+1 }:=
 { h with c0:=by have:=h.c0;show 0≤s.clock+1;omega,c1:=by have:=h.c1;show s.clock+1≤((c+1:Nat):Int);omega,h1:=by have:=h.h1;show s.heard≤s.clock+1;omega,q1:=by have:=h.q1;show s.pf.num≤s.boot*1048576+((c+1:Nat):Int);omega }
theorem Ok.propose {c:Nat} {s:Nd} (h:Ok c s):Ok c s.propose.1:=by
 unfold Nd.propose
 by_cases hp:s.nextV≤s.dv∨1099511627776<s.nextV
 ·rw [if_pos hp];exact h
 ·rw [if_neg hp]
  have h0:=h.d0
  exact { h with
   d0:=by show 0≤s.nextV;omega
   d1:=by show s.nextV≤1099511627776;omega
   l1:=by have:=h.l1;show s.last≤s.nextV;omega
   h0:=h.c0
   h1:=Int.le_refl _
   qa:=by show ([]:List (Int × Int)).length≤64;simp
   vt:=fun u l e=>by
    have e:some (s.nextV,Zbx s.nextV s.n [] ⟨s.id,s.last,s.L,s.com⟩)=some (u,l):=e
    injection e with e
    injection e with e1 e2
    subst e1;subst e2
    exact Z9d ⟨by omega,by omega,Nat.zero_le _,fun x hx=>by cases hx⟩ h.n7 _ }
theorem Ok.installs {c:Nat} {s:Nd} (h:Ok c s) {u:Int} {l:List Vt} (hv:s.v=some (u,l)) (hu:u=s.dv):Ok c (s.installs u l):=by
 have hL:=Z2d (Z57 l).lg
 have hT:=Z31 (mkV l)
 have ho:=h.o0
 have h1:=h.lg
 exact { h with
  l0:=by show 0≤u;rw [hu];exact h.d0
  l1:=by show u≤s.dv;omega
  m0:=by show 0≤((Z0v (mkV l):Nat):Int);omega
  m1:=by show ((Z0v (mkV l):Nat):Int)<128;omega
  lg:=hL
  o0:=by show 0≤min (max s.com (Z57 l).com) ((Z2y (Z57 l).lg).length:Int);omega
  o1:=by show min (max s.com (Z57 l).com) ((Z2y (Z57 l).lg).length:Int)≤((Z2y (Z57 l).lg).length:Int);omega
  a0:=by show (0:Int)≤0;omega
  a1:=by show (0:Int)<128;omega
  h0:=h.c0
  h1:=Int.le_refl _
  vt:=fun u l e=>by cases e }
theorem Ok.gather {c:Nat} {s:Nd} (h:Ok c s) {u:Int} {l:List Vt} (hv:s.v=some (u,l)) (hu:u=s.dv):Ok c (s.gather u l).1:=by
 unfold Nd.gather
 split
 ·exact h.installs hv hu
 ·split
  ·exact h.propose
  ·exact h
theorem Nd.tick0_knows {s:Nd} (hk:s.knows=true) (hi:s.in_=false):s.tick0=match s.v with
  | some (u,l)=>if u==s.dv then s.gather u l else if s.late then s.propose else (s,[])
  | none=>if s.late then s.propose else (s,[]):=by
 have hd:s.decides=false:=by unfold Nd.decides;rw [hi];rfl
 unfold Nd.tick0
 rw [hk,hd,hi]
 cases hsv:s.v with
 | none=>rfl
 | some ul=>rfl
theorem Nd.tick0_not {s:Nd} (hk:s.knows=false):s.tick0=(s,s.joins):=by
 unfold Nd.tick0;rw [hk];rfl
theorem Ok.tick0 {c:Nat} {s:Nd} (h:Ok c s) (hi:s.in_=false):Ok c s.tick0.1:=by
 cases hk:s.knows with
 | false=>rw [Nd.tick0_not hk];exact h
 | true=>
   rw [Nd.tick0_knows hk hi]
   have hr:Ok c (if s.late then s.propose else (s,[])).1:=by
    split
    ·exact h.propose
    ·exact h
   cases hsv:s.v with
   | none=>exact hr
   | some ul=>
     obtain⟨u,l⟩:=ul
     show Ok c (if u==s.dv then s.gather u l else if s.late then s.propose else (s,[])).1
     by_cases hu:u=s.dv
     ·rw [if_pos (by simpa using hu)]
      exact h.gather hsv hu
     ·rw [if_neg (by simpa using hu)]
      exact hr
theorem Ok.tick {c:Nat} {s:Nd} (h:Ok c s) (hi:s.in_=false):Ok (c+1) s.tick.1:=by
 have h1:=h.clk.tick0 (show ({ s with clock:=s.clock+1 }:Nd).in_=false from hi)
 exact h1.settle
theorem Ok.make {id n boot dv:Int} (h3:3≤n) (h7:n≤7) (h1:1≤id) (hn:id≤n) (hb:1≤boot) (hb2:boot≤1099511627776) (hd:0≤dv) (hd2:dv≤1099511627776):Ok 0 (Nd.make id n boot dv):=
 { n3:=h3,n7:=h7,i1:=h1,in_:=hn,b1:=hb,b2:=hb2,c0:=Int.le_refl _,c1:=Int.le_refl _,h0:=Int.le_refl _,h1:=Int.le_refl _,d0:=hd,d1:=hd2,l0:=Int.le_refl _,l1:=hd,m0:=Int.le_refl _,m1:=by show (0:Int)<128;omega,
   lg:=Nat.zero_le _,o0:=Int.le_refl _,o1:=Int.le_refl _,e0:=Int.le_refl _,e1:=by show (0:Int)≤1099511627776;omega,a0:=Int.le_refl _,a1:=by show (0:Int)<128;omega,j0:=hd,j1:=hd2,vt:=fun u l e=>(by cases e),
   q0:=by show 0≤boot*1048576;omega,q1:=by show boot*1048576≤boot*1048576+((0:Nat):Int);omega,qa:=Nat.zero_le _ }
theorem Ok.hears_vote {c:Nat} {s:Nd} (h:Ok c s) (m:Ms) (hk:m.kind=3):Ok c (s.hears m).1:=by
 obtain⟨k,f,t,b,vi,la,me,po,es,co,nu,cl,y⟩:=m
 dsimp only at hk
 subst hk
 show Ok c (match s.v with
  | some (view,l)=>if vi==view&&vi==s.dv then { s with v:=some (view,Zbx view s.n l ⟨f,la,es,co⟩) } else s
  | none=>s)
 cases hsv:s.v with
 | none=>exact h
 | some ul=>
   obtain⟨u,l⟩:=ul
   show Ok c (if vi==u&&vi==s.dv then { s with v:=some (u,Zbx u s.n l ⟨f,la,es,co⟩) } else s)
   split
   ·refine { h with vt:=?_ }
    intro u' l' e
    have e:some (u,Zbx u s.n l ⟨f,la,es,co⟩)=some (u',l'):=e
    injection e with e
    injection e with e1 e2
    subst e1;subst e2
    exact Z9d (h.vt u l hsv) h.n7 _
   ·exact h
theorem Ok.heard_ {c:Nat} {s:Nd} (h:Ok c s) (bs:List Int):Ok c { s with boots:=bs }:={ h with }
theorem Ok.hear {c:Nat} {s:Nd} (h:Ok c s) (m:Ms) (h0:Ok c ((if m.kind==12 then ({ s with boots:=s.boots.set m.frm.toNat m.boot },[{ s.ms 13 m.frm with num:=m.num,clock:=s.clock }]) else if !s.knows then ({ s with boots:=s.boots.set m.frm.toNat m.boot }:Nd).state m else ({ s with boots:=s.boots.set m.frm.toNat m.boot }:Nd).hears m:Nd × List Ms)).1):Ok c (s.hear m).1:=by
 unfold Nd.hear
 split
 ·exact h
 ·exact h0.settle
end
section
open Go.RowKit
section
variable {own:Nat→Nat} {w0 w:World} {b dk:Nat} {s:Nd}
theorem PX.cell (h:PX own w0 w b dk s):∃ a:NdAt,(∀ o,w.cell? ⟨b,o,none⟩=(ndC a s)[o]?)∧b<w.heap.size:=by
 obtain⟨a,hN,rfl,rfl,hod,hov⟩:=h.nd
 exact⟨a,hN.c,hN.lt⟩
theorem PX.dv (h:PX own w0 w b dk s):w.cell? ⟨dk,1,none⟩=some (.int .i64 s.dv):=by
 obtain⟨a,hN,rfl,rfl,hod,hov⟩:=h.nd
 have:=hN.dv
 rw [hod] at this
 exact this
def Nd.view (s:Nd):Int × Int × Bool:=if s.in_ then (s.last,s.mem,true) else (0,0,false)
end
end
section
open Go.RowKit
abbrev frM (kind id too view:Int):Ms:=⟨kind,id,too,1,view,0,0,0,[],0,0,0,false⟩
end
section
open Go.RowKit
def tickN (s:Nd):Nat→Nd
 | 0=>s
 | k+1=>(tickN s k).tick.1
theorem pubM.len {own:Nat→Nat} {w:World} {v:Value} {o:List MsS} (h:pubM own w v o) {l:List Ms} (e:o.map MsS.m=l):∃ ad cap,v=.slice ad l.length cap∧(0<l.length→∃ g off,ad=some ⟨g,off,none⟩∧g<w.heap.size):=by
 have hl:o.length=l.length:=by rw [← e,List.length_map]
 obtain⟨ad,cap,hv,_,_,ha⟩:=h.rd
 rw [hl] at hv
 refine⟨ad,cap,hv,fun h0=>?_⟩
 obtain⟨g,off,e1,hc⟩:=ha (by omega)
 exact⟨g,off,e1,(hc 0 (by omega)).lt Z23⟩
theorem pubM.cell {own:Nat→Nat} {w:World} {ad:Option Addr} {n cap:Nat} {o:List MsS} (h:pubM own w (.slice ad n cap) o) {l:List Ms} (e:o.map MsS.m=l) (g off:Nat) (ha:ad=some ⟨g,off,none⟩) (k:Nat) (hk:k<l.length) (c:Nat) (u:Value) (hc8:c≠8) (hu:(Z94 l[k] (.slice none 0 0))[c]?=some u) :
  w.cell? ⟨g,off+k*13+c,none⟩=some u:=by
 subst e
 obtain⟨ad',a0,hv,_,_,hh⟩:=h.rd
 cases hv
 obtain⟨g',off',e1,hc⟩:=hh (by rw [List.length_map] at hk;omega)
 rw [ha] at e1
 injection e1 with e1
 injection e1 with e2 e3
 subst e2;subst e3
 rw [List.length_map] at hk
 refine hc k hk c u ?_
 rw [List.getElem_map] at hu
 show (Z94 o[k].m o[k].s)[c]?=some u
 rw [← hu]
 match c,hc8 with
 | 0,_ | 1,_ | 2,_ | 3,_ | 4,_ | 5,_ | 6,_ | 7,_ | 9,_ | 10,_ | 11,_ | 12,_=>rfl
 | n+13,_=>rfl
def B0:Nd:=Nd.make 1 3 1 0
def B10:Nd:=tickN B0 10
def B11:Nd:=(B10.hear (frM 3 2 1 1)).1
def B12:Nd:=B11.tick.1
end
section
open Go.RowKit
theorem Zcs (W:World) (h:W.ShapedOpen Tryz.prog):∃ m,W.cell? ⟨0,0,none⟩=some (.int .i64 m):=
 cell_of_shapedOpen_int (P:=Tryz.prog) (g:=0) (t:=3) (zero:=#[.int .i64 0]) h (of_decide_eq_true (by kernel_rfl)) (by kernel_rfl) rfl (by kernel_rfl) (by kernel_rfl) Tryz.underlying3
end
end Go.Proofs.YtbonjbokofkafaaGreat
