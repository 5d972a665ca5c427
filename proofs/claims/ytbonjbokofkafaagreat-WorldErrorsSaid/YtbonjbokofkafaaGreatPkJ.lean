/- Lemmas of the proof: PkJ. -/
import Derived.Test.YtbonjbokofkafaaGreatPkI
import Derived.Test.YtbonjbokofkafaaGreatPkF
import Derived.Test.YtbonjbokofkafaaGreatPkC
import Derived.Deep.DeepCutAuto
import Derived.Test.YtbonjbokofkafaaGreatPkG
import Derived.Test.YtbonjbokofkafaaGreatPkD
import Derived.Test.YtbonjbokofkafaaGreatPkB
namespace Go.Proofs.YtbonjbokofkafaaGreat
set_option linter.unusedVariables false
set_option maxRecDepth 100000
set_option maxHeartbeats 64000000
section
open Go.RowKit
theorem lgO.block {w:World} {F:Nat→Prop} {b:Nat} {l:List Ent} (h:lgO w F b l):F b:=h.1
section
variable {own:Nat→Nat} {K:Nat} {w:World} {a:NdAt} {s:Nd} {out:List MsS}
theorem NdO.newL (h:NdO own K w a s out) {w1:World} {b:Nat} {L:List Ent} (hb:Below w.heap.size w w1) (hl:lgO w1 (fun k=>w.heap.size≤k∧k<w1.heap.size) b L) :
  ∃ own',NdO own' K (w1.setCell ⟨a.b,9,none⟩ (Z09 b)) { a with l:=b } { s with L:=L } out∧Turn (JK K) own own' w (w1.setCell ⟨a.b,9,none⟩ (Z09 b)):=by
 have hk:=h.r.k16
 have t:=Turn.extJ (own:=own) (J:=fun o=>o=K) (K+3) (w:=w) (w':=w1.setCell ⟨a.b,9,none⟩ (Z09 b)) (Z06 (.of_below hb) h.r.ob)
 have hlt:=h.lt
 have hs:(w1.setCell ⟨a.b,9,none⟩ (Z09 b)).heap.size=w1.heap.size:=World.size_setCell ..
 rw [hs] at t
 have hl2:lgO (w1.setCell ⟨a.b,9,none⟩ (Z09 b)) (fun k=>w.heap.size≤k∧k<w1.heap.size) b L:=hl.chg (G:=fun k=>k=a.b) (Z06 (Chg.refl _ _) rfl) (fun k e=>by omega)
 refine⟨_,⟨?_,h.ears,h.r.putL (t.mono fun o e=>.inl e) (hl2.mono fun k e=>Z20 (by omega) e.2)⟩,t.mono jkK⟩
 rw [Z0d (o:=9) (u:=Z09 b) (Z02 h.blk hb)]
 unfold ndC
 rw [List.setIfInBounds_toArray];rfl
theorem NdO.newQ (h:NdO own K w a s out) {w1:World} (q:Qd) (hb:Below w.heap.size w w1) (hq:qO w1 w.heap.size q.n q.mem q.me q.H q.P q.last) :
  ∃ own',NdO own' K (w1.setCell ⟨a.b,21,none⟩ (Z09 w.heap.size)) { a with qb:=some w.heap.size } { s with q:=some q } out∧Turn (JK K) own own' w (w1.setCell ⟨a.b,21,none⟩ (Z09 w.heap.size)):=by
 have hk:=h.r.k16
 have t:=Turn.extJ (own:=own) (J:=fun o=>o=K) (K+10) (w:=w) (w':=w1.setCell ⟨a.b,21,none⟩ (Z09 w.heap.size)) (Z06 (.of_below hb) h.r.ob)
 have hlt:=h.lt
 have hs:(w1.setCell ⟨a.b,21,none⟩ (Z09 w.heap.size)).heap.size=w1.heap.size:=World.size_setCell ..
 rw [hs] at t
 have hq2:qO (w1.setCell ⟨a.b,21,none⟩ (Z09 w.heap.size)) w.heap.size q.n q.mem q.me q.H q.P q.last:=⟨Z0u hq.1 (by omega),hq.2⟩
 refine⟨_,⟨?_,h.ears,h.r.putQ (b:=w.heap.size) (t.mono fun o e=>.inl e) ⟨Z20 (by omega) (Z04 hq.1),hq2⟩⟩,t.mono jkK⟩
 rw [Z0d (o:=21) (u:=Z09 w.heap.size) (Z02 h.blk hb)]
 unfold ndC
 rw [List.setIfInBounds_toArray];rfl
theorem NdO.noQ (h:NdO own K w a s out) :
  NdO own K (w.setCell ⟨a.b,21,none⟩ (.pointer none)) { a with qb:=none } { s with q:=none } out∧Turn (fun i=>i=K) own own w (w.setCell ⟨a.b,21,none⟩ (.pointer none)):=
 h.set 21 _ (by unfold ndC;rw [List.setIfInBounds_toArray];rfl) rfl h.ears fun r=>
  ⟨r.wf,r.k16,r.ob,r.odk,r.dsz,r.dsk,r.gm,r.jn,r.lg,r.pn,r.rq,r.tt,r.pf,r.vt,(by unfold qmM;trivial),r.ask,r.out⟩
theorem NdO.qsome (h:NdO own K w a s out) {q:Qd} (hq:s.q=some q):∃ qb,a.qb=some qb∧own qb=K+10∧qO w qb q.n q.mem q.me q.H q.P q.last:=by
 have:=h.r.qm
 rw [hq] at this
 cases hb:a.qb with
 | none=>rw [hb] at this;exact this.elim
 | some qb=>rw [hb] at this;exact⟨qb,rfl,this⟩
theorem NdO.qnone (h:NdO own K w a s out) (hq:s.q=none):a.qb=none:=by
 have:=h.r.qm
 rw [hq] at this
 cases hb:a.qb with
 | none=>rfl
 | some qb=>rw [hb] at this;exact this.elim
theorem NdO.turnQ (h:NdO own K w a s out) {w1:World} {qb:Nat} (q:Qd) (ha:a.qb=some qb) (ho:own qb=K+10) (hc:Chg (fun k=>k=qb) w w1) (hq:qO w1 qb q.n q.mem q.me q.H q.P q.last) :
  ∃ own',NdO own' K w1 a { s with q:=some q } out∧Turn (JK K) own own' w w1:=by
 have hk:=h.r.k16
 have t:Turn (fun o=>o=K+10) own own w w1:=.same (hc.mono fun k _ e=>by rw [e];exact ho) h.wf
 have e:=h.r.putQ (b:=qb) (q:=q) (t.mono (J':=fun o=>o=K∨o=K+10) fun o e=>.inr e) ⟨ho,hq⟩
 have e2:({ a with qb:=some qb }:NdAt)=a:=by rw [← ha]
 rw [e2] at e
 refine⟨own,⟨?_,h.ears,e⟩,t.mono fun o e=>by unfold JK;omega⟩
 have:=t.pub h.blk (by rw [h.r.ob];omega)
 rw [this]
 have:ndC a s=ndC a { s with q:=some q }:=rfl
 rw [← this]
theorem ndQAck (h:NdO own K w a s out) {q:Qd} (hq:s.q=some q) {qb:Nat} (ha:a.qb=some qb) (hm:0≤q.mem∧q.mem<128) (id hv pr:Int) :
  Calls Tryz.prog 177 #[Z09 qb, .int .i64 id, .int .i64 hv, .int .i64 pr] w fun r w'=>r=.returned (.bool (q.okAck id hv))∧∃ own',NdO own' K w' a { s with q:=some (q.ack id hv pr) } out∧Turn (JK K) own own' w w':=by
 obtain⟨qb',e,ho,hQ⟩:=h.qsome hq
 rw [ha] at e
 injection e with e
 subst e
 cases hok:q.okAck id hv
 ·have hno:=hok
  unfold Qd.okAck at hno
  refine (Zi1 qb q.n q.mem q.me q.H q.P q.last id hv pr w hQ hm hno).mono ?_
  rintro r w' ⟨rfl,rfl⟩
  have e:q.ack id hv pr=q:=by unfold Qd.ack;rw [hok];rfl
  rw [e,show ({ s with q:=some q }:Nd)=s by rw [← hq]]
  exact⟨rfl,own,h, .grow (Below.refl _ _) h.wf⟩
 ·have hyes:=hok
  unfold Qd.okAck at hyes
  simp only [Bool.and_eq_true,decide_eq_true_eq] at hyes
  obtain⟨⟨h1,h2⟩,h3⟩:=hyes
  have hb:isB id=true:=by unfold Z18 at h1;simp only [Bool.and_eq_true] at h1;exact h1.1
  unfold isB at hb
  simp only [Bool.and_eq_true,decide_eq_true_eq] at hb
  obtain⟨n,rfl⟩:=Int.eq_ofNat_of_zero_le (by omega:0≤id)
  refine (Ze2 qb q.n q.mem q.me q.H q.P q.last n hv pr w hQ hm h1 (by omega) (by omega) h2 h3).mono ?_
  rintro r w' ⟨rfl,hQ',hc⟩
  have e:q.ack (n:Int) hv pr={ q with H:=q.H.set n (max (q.H.getD n 0) hv),P:=ackP q.P n pr q.last }:=by
   unfold Qd.ack
   rw [hok]
   simp only [if_true,Int.toNat_natCast]
   rfl
  rw [e]
  exact⟨rfl,h.turnQ _ ha ho hc hQ'⟩
end
end
section
open Go.RowKit
theorem Zec:∀ (l1 l2:List VtS) (b1 b2:VtS),l1.map VtS.v=l2.map VtS.v→b1.v=b2.v→(Z1k b1 l1).v=(Z1k b2 l2).v
 | [],[],b1,b2,_,hb=>hb
 | [],y :: l2,_,_,h,_=>by cases h
 | x :: l1,[],_,_,h,_=>by cases h
 | x :: l1,y :: l2,b1,b2,h,hb=>by
   simp only [List.map_cons,List.cons.injEq] at h
   unfold Z1k
   rw [List.foldl_cons,List.foldl_cons]
   refine Zec l1 l2 _ _ h.2 ?_
   rw [h.1,hb]
   split
   ·exact h.1
   ·exact hb
theorem comTo_v (l1 l2:List VtS) (h:l1.map VtS.v=l2.map VtS.v):Z52 l1=Z52 l2:=by
 unfold Z52
 have e:∀ (l:List VtS) (c:Int),l.foldl (fun c x=>max c x.v.com) c=(l.map VtS.v).foldl (fun c x=>max c x.com) c:=fun l c=>by rw [List.foldl_map]
 rw [e,e,h]
theorem mkV_v (l:List Vt):(mkV l).map VtS.v=l:=by unfold mkV;rw [List.map_map];exact List.map_id l
theorem bestV_is (ls:List VtS) (y:VtS) (hl:0<ls.length) (hy:y=ls[0]):Z57 (ls.map VtS.v)={ (Z1k y ls).v with com:=min (Z52 ls) (((Z1k y ls).v.lg.length:Nat):Int) }:=by
 cases ls with
 | nil=>simp at hl
 | cons x l=>
   have hyx:y=x:=hy
   subst hyx
   have h1:(Z1k ⟨y.v, .slice none 0 0⟩ (mkV ((y :: l).map VtS.v))).v=(Z1k y (y :: l)).v:=Zec _ _ _ _ (mkV_v _) rfl
   have h2:Z52 (mkV ((y :: l).map VtS.v))=Z52 (y :: l):=comTo_v _ _ (mkV_v _)
   unfold Z57
   rw [List.map_cons] at h1 h2 ⊢
   simp only [h1,h2]
def Nd.ins1 (s:Nd) (L:List Ent) (nc u T:Int):Nd:={ s with L:=L,com:=nc,last:=u,mem:=T,mine:=true }
def Nd.ins2 (s:Nd) (q:Option Qd):Nd:={ s with q:=q }
def Nd.ins3 (s:Nd) (n:Int):Nd:={ s with start:=n,acked:=0,asked:=[],v:=none }
def Nd.insE (s:Nd) (k:Nat):Nd:={ s with ears:=List.replicate k s.clock++s.ears.drop k }
theorem Ziw (s:Nd) (h:s.ears.length=8) (k:Nat) (hk:k<8):(List.replicate k s.clock++s.ears.drop k).set k s.clock=List.replicate (k+1) s.clock++s.ears.drop (k+1):=by
 rw [List.set_append_right _ _ (by simp),List.length_replicate,Nat.sub_self,List.drop_eq_getElem_cons (by omega),List.set_cons_zero,List.replicate_succ',List.append_assoc]
 rfl
def NdAt.wL (a:NdAt) (l:Nat):NdAt:={ a with l:=l }
def NdAt.w0 (a:NdAt):NdAt:={ a with av:=.slice none 0 0,v:=none }
def NdAt.wQ (a:NdAt) (q:Option Nat):NdAt:={ a with qb:=q }
section
variable {own:Nat→Nat} {K:Nat} {w:World} {a:NdAt} {s:Nd} {out:List MsS}
theorem NdO.c17 (h:NdO own K w a s out) {vb:Nat} (ha:a.v=some vb):w.cell? ⟨a.b,17,none⟩=some (Z09 vb):=by
 have:=h.c 17
 rw [show (ndC a s)[17]?=some (Z3f a.v) from rfl,ha] at this
 exact this
theorem NdO.c21 (h:NdO own K w a s out) {qb:Nat} (ha:a.qb=some qb):w.cell? ⟨a.b,21,none⟩=some (Z09 qb):=by
 have:=h.c 21
 rw [show (ndC a s)[21]?=some (Z3f a.qb) from rfl,ha] at this
 exact this
theorem Zaq (c:Nat) (h:NdO own K w a s out) (hok:Ok c s) (hl:out.length≤1000000) (u:Int) (l:List Vt) (hv:s.v=some (u,l)) (hm:Z2x (Z0v (mkV l)) s.n=true) :
  Calls Tryz.prog 124 #[Z09 a.b] w fun r w'=>r=.returned (.tuple #[])∧Stp own K w a w' (s.install u l).1 (out.map MsS.m++(s.install u l).2):=by
 have h16:=h.r.k16
 obtain⟨vb,hav⟩:=h.vsome hv
 obtain⟨ls,hls,hvt⟩:=h.votes hv hav
 have hokv:=hok.vt u l hv
 have hmT:Z2x (Z0v ls) s.n=true:=by rw [← Z8g,← hls];exact hm
 have hl0:0<ls.length:=by
  cases ls with
  | nil=>
    exfalso
    rw [show Z0v []=0 from rfl] at hmT
    unfold Z2x at hmT
    simp only [Bool.and_eq_true,decide_eq_true_eq] at hmT
    have h3:=hok.n3
    have h0:lenT ((0:Nat):Int).toNat=0:=by decide
    rw [h0] at hmT
    omega
  | cons x ls=>simp
 have hlg:∀ x ∈ ls,x.v.lg.length≤60:=fun x hx=>by
  have:=(hokv.2.2.2 x.v (by rw [hls];exact List.mem_map_of_mem hx)).2.2.2.2.1
  have:=Z2d x.v.lg
  omega
 have hlc:∀ x ∈ ls,0≤x.v.com∧x.v.com≤60:=fun x hx=>by
  have h1:=hokv.2.2.2 x.v (by rw [hls];exact List.mem_map_of_mem hx)
  have:=hlg x hx
  omega
 obtain⟨y0,hy0⟩:∃ y0,y0=ls[0]:=⟨_,rfl⟩
 obtain⟨y,hy⟩:∃ y,Z1k y0 ls=y:=⟨_,rfl⟩
 obtain⟨cm,hcm⟩:∃ cm,Z52 ls=cm:=⟨_,rfl⟩
 have hbest:=bestV_is ls y0 hl0 hy0
 rw [hy,hcm,← hls] at hbest
 have hy60:y.v.lg.length≤60:=by
  rw [← hy]
  exact Z8c y0 ls (fun x=>x.v.lg.length≤60) (hy0 ▸ hlg _ (List.getElem_mem hl0)) hlg
 obtain⟨bc,hbc⟩:∃ bc,min cm ((y.v.lg.length:Nat):Int)=bc:=⟨_,rfl⟩
 rw [hbc] at hbest
 have hVB:=hd_ (fun w1 (hb:Below w.heap.size w w1)=>Zhp vb u s.n ls y0 y cm w1 (hvt.grow hb).rd hmT hl0 hlg hy0 hy hcm)
 rw [hbc] at hVB
 obtain⟨T,hT⟩:∃ T,Z0v ls=T:=⟨_,rfl⟩
 have hT2:Z0v (mkV l)=T:=by rw [hls,Z8g,hT]
 have hT128:T<128:=by rw [← hT];exact Z31 _
 have hcm0:0≤cm∧cm≤60:=by
  rw [← hcm]
  have:∀ (l:List VtS) (c:Int),(0≤c∧c≤60)→(∀ x ∈ l,0≤x.v.com∧x.v.com≤60)→0≤l.foldl (fun c x=>max c x.v.com) c∧l.foldl (fun c x=>max c x.v.com) c≤60:=by
   intro l
   induction l with
   | nil=>exact fun c hc _=>hc
   | cons x l ih=>
     intro c hc hx
     have h1:=hx x (List.mem_cons_self ..)
     have h2:0≤max c x.v.com∧max c x.v.com≤60:=by omega
     exact ih (max c x.v.com) h2 fun z hz=>hx z (List.mem_cons_of_mem _ hz)
  exact this ls 0 (by omega) hlc
 have c17:=h.c17 hav
 have hla:=h.lt
 have hbc0:0≤bc∧bc≤60:=by omega
 obtain⟨yl,hyl⟩:∃ yl,y.v.lg=yl:=⟨_,rfl⟩
 rw [hyl] at hy60
 have hLl:=Z2d yl
 obtain⟨L,hL⟩:∃ L,Z2y yl=L:=⟨_,rfl⟩
 rw [hL] at hLl
 replace hVB:=hd_ (fun w1 (hb:Below w.heap.size w w1)=>hVB.out w1 hb)
 rw [hyl] at hVB
 replace hL:=hd_ hL
 replace hyl:=hd_ hyl
 replace hbest:=hd_ hbest
 replace hokv:=hd_ hokv
 replace hok:=hd_ hok
 have hv':=hd_ hv
 have hav':=hd_ hav
 replace hvt:=hd_ hvt
 replace h:=hd_ h
 replace hT:=hd_ hT
 replace hT2:=hd_ hT2
 replace hmT:=hd_ hmT
 replace hm:=hd_ hm
 obtain⟨yf,hyf⟩:∃ yf,y.v.frm=yf:=⟨_,rfl⟩
 obtain⟨yk,hyk⟩:∃ yk,y.v.last=yk:=⟨_,rfl⟩
 rw [hyf,hyk] at hVB
 clear hv hav hy hy0 hcm hbc hyf hyk hlg hlc hl0 hls
 go_enter Tryz.func124,Tryz.ntmps124
 go_wp2_with fail
 refine (hVB.out _ (Below.refl _ _)).mono ?_
 rintro r w1 ⟨v1,rfl,ho1,hb1⟩
 have hN1:=hd_ (h.out.grow hb1)
 have t1:=hd_ (Turn.grow (J:=JK K) (own:=own) hb1 h.out.wf)
 obtain⟨sa,sc,rfl⟩:=ho1.rd.len
 replace ho1:=hd_ ho1.rd
 obtain⟨xb,hxb⟩:∃ xb,xb=w1.heap.size:=⟨_,rfl⟩
 obtain⟨W2,hW2⟩:∃ W2,W2=w1.alloc (.cells #[.int .i64 yf, .int .i64 yk, .slice sa yl.length sc, .int .i64 bc] 184):=⟨_,rfl⟩
 have hB2:Below w1.heap.size w1 W2:=hW2 ▸ (Below.refl _ _).alloc (Nat.le_refl _) _
 have hx2:W2.heap[xb]?=some (.cells #[.int .i64 yf, .int .i64 yk, .slice sa yl.length sc, .int .i64 bc] 184 (0,0)):=hW2 ▸ hxb ▸ Z0a _ _
 have hN2:=hd_ (hN1.out.grow hB2)
 have t2:=hd_ (t1.out.trans (Turn.grow (J:=JK K) hB2 hN1.out.wf))
 have hr2:=hd_ (ho1.out.grow hB2)
 have hxo:own xb=0:=h.out.wf xb (by have:=hb1.size;omega)
 go_upto_region 1 with (fail)
 rw [← hW2,← hxb]
 have x2:=Z00 hx2 2
 have x3:=Z00 hx2 3
 simp only [List.getElem?_toArray,List.getElem?_cons_zero,List.getElem?_cons_succ] at x2 x3
 have lx:=Z04 hx2
 have la2:=hN2.out.lt
 replace hx2:=hd_ hx2
 clear hW2 hB2 hb1 hN1 t1 ho1 c17
 replace hxb:=hd_ hxb
 go_wp2_with fail
 refine (Z1e _ yl _ hr2.out).mono ?_
 rintro r w3 ⟨lb,rfl,hlb,hlg3,hb3⟩
 rw [hL.out] at hlg3
 have hN3:=hN2.out.grow hb3
 have q9:w3.cell? ⟨a.b,9,none⟩=some (Z09 a.l):=hN3.c 9
 have z9:=hN3.free 9
 have la3:=hN3.lt
 obtain⟨own4,hN4,t4⟩:=hN2.out.newL hb3 hlg3
 have hx4:=hd_ (t4.pub hx2.out (by rw [hxo];exact jk0 h16))
 have hxo4:own4 xb=0:=(t4.old xb lx).trans hxo
 have hT4:=hd_ (t2.out.trans t4)
 replace hN4:=hd_ hN4
 clear t4 hlg3 hN3 x2 x3 lx la2
 obtain⟨W4,hW4⟩:∃ W4,W4=w3.setCell ⟨a.b,9,none⟩ (Z09 lb):=⟨_,rfl⟩
 rw [← hW4] at hN4 hx4 hT4
 replace hb3:=hd_ hb3
 go_upto_region 2 with (fail)
 rw [← hW4]
 clear q9 z9 la3
 replace hW4:=hd_ hW4
 refine Z05 (fun _=>False) (.q 0 (.q 1 (.q 2 (.q 3 (.q 4 (.q 5 (.q 6 (.q 7 (.q 8 (.q 9 (.q 10 (.q 11 (.l 12 (.q 13 (.q 14 (.q 15 (.cut (.l 16 .fin)))))))))))))))))) (by kernel_rfl) (by kernel_rfl) ?_
 intro w5 hhw5 hbw5
 have hNw5:=hN4.out.grow hbw5
 have u10:=Z01 (F:=fun _=>False) (b:=w5) (fun h=>h) (show w5.cell? ⟨a.b,10,none⟩=some (.int .i64 s.com) from hNw5.c 10)
 have hlw5:=hNw5.lt
 have u9:=Z01 (F:=fun _=>False) (b:=w5) (fun h=>h) (show w5.cell? ⟨a.b,9,none⟩=some (Z09 lb) from hNw5.c 9)
 have hx5:=Z02 hx4.out hbw5
 have x3:=Z01 (F:=fun _=>False) (b:=w5) (fun h=>h) (show w5.cell? ⟨xb,3,none⟩=some (.int .i64 bc) from Z00 hx5 3)
 have lx:=Z04 hx5
 have q10:w5.cell? ⟨a.b,10,none⟩=some (.int .i64 s.com):=hNw5.c 10
 have z10:=hNw5.free 10
 have hT5:=hd_ (hT4.out.trans (Turn.grow (J:=JK K) hbw5 hN4.out.wf))
 have hcom0:=hok.out.o0
 have hcom1:=hok.out.o1
 have hcom2:=hok.out.lg
 obtain⟨nc,hnc⟩:∃ nc,min (max s.com bc) (L.length:Int)=nc:=⟨_,rfl⟩
 replace hx5:=hd_ hx5
 replace hNw5:=hd_ hNw5
 clear hhw5
 replace hbw5:=hd_ hbw5
 iterate 12 (refine Z0n rfl ?_;go_big_quiet_step (fail);refine wpQuiet_nil ?_)
 refine Z0j rfl (by kernel_rfl) ?_
 intro K1 hK
 go_simp
 refine (Z0m lb L _ hNw5.out.r.lg.rd).mono ?_
 rintro r w6 ⟨rfl,rfl⟩
 refine hK _ _ (Chg.refl _ _) ?_
 clear hK K1
 iterate 3 (refine Z0n rfl ?_;go_big_quiet_step (fail);refine wpQuiet_nil ?_)
 refine Z0h Z1j ?_
 refine Z0j rfl (by kernel_rfl) ?_
 intro K1 hK
 go_simp
 obtain⟨hN6,t6⟩:=hNw5.out.s10 nc
 refine hK _ _ (Z06 (Chg.refl _ _) trivial) ?_
 clear hK K1
 refine Z0c ?_
 have hx6:=hd_ (t6.pub hx5.out (by omega))
 have hT6:=hd_ (hT5.out.trans (t6.mono jkK))
 obtain⟨W6,hW6⟩:∃ W6,W6=w5.setCell ⟨a.b,10,none⟩ (.int .i64 nc):=⟨_,rfl⟩
 rw [← hW6] at hN6 hx6 hT6 ⊢
 replace hW6:=hd_ hW6
 replace hN6:=hd_ hN6
 replace hnc:=hd_ hnc
 clear t6 u9 u10 x3 lx q10 z10 hlw5
 go_upto_region 3 with (fail)
 refine Z0y (Zf6 a.b [11,12,20]) (.q 0 (.q 1 (.q 2 (.q 3 (.q 4 (.q 5 (.q 6 (.q 8 (.q 9 (.q 10 (.q 11 (.l 7 (.l 12 (.q 13 (.q 14 (.l 15 (.q 16 (.q 17 (.l 18 (.q 19 (.q 20 (.l 21 .fin)))))))))))))))))))))) (by kernel_rfl) (by kernel_rfl) ?_
 intro w7 hh7 hb7
 have hN7:=hN6.out.grow hb7
 have u17:=Z1d (F:=Zf6 a.b [11,12,20]) (b:=w7) (g:=a.b) (o:=17) (fun h=>by have:=h.2;simp at this) (hN7.c17 hav'.out)
 obtain⟨ls7,hls7,hvt7⟩:=hN7.votes hv'.out hav'.out
 have hT7:Z0v ls7=T:=by rw [← Z8g,← hls7];exact hT2.out
 have hx7:=hd_ (Z02 hx6.out hb7)
 have t7:=hd_ (hT6.out.trans (Turn.grow (J:=JK K) hb7 hN6.out.wf))
 have hla7:=hN7.lt
 replace hN7:=hd_ hN7
 replace hvt7:=hd_ hvt7.rd
 replace hls7:=hd_ hls7
 clear hh7 hb7
 iterate 11 (refine Z6l rfl ?_;go_big_quiet_step (fail);refine wpQuiet_nil ?_)
 refine Z4j rfl (by kernel_rfl) ?_
 intro K1 hK
 go_simp
 refine (Z53 vb u s.n ls7 _ hvt7.out).mono ?_
 rintro r w8 ⟨rfl,rfl⟩
 refine hK _ _ (ChgC.refl _ _) ?_
 clear hK K1
 refine Z4j rfl (by kernel_rfl) ?_
 intro K1 hK
 go_simp
 refine (Z54 vb u s.n ls7 _ hvt7.out).mono ?_
 rintro r w8 ⟨rfl,hb8⟩
 rw [hT7]
 have hN8:=hN7.out.grow hb8
 have hx8:=Z02 hx7.out hb8
 have q11:w8.cell? ⟨a.b,11,none⟩=some (.int .i64 s.last):=hN8.c 11
 have q12:w8.cell? ⟨a.b,12,none⟩=some (.int .i64 s.mem):=hN8.c 12
 have q20:w8.cell? ⟨a.b,20,none⟩=some (.bool s.mine):=hN8.c 20
 have z11:=hN8.free 11
 have z12:=hN8.free 12
 have z20:=hN8.free 20
 have hla8:=hN8.lt
 obtain⟨hA,tA⟩:=hN8.s11 u
 obtain⟨hB,tB⟩:=hA.s12 (T:Int)
 obtain⟨hC,tC⟩:=hB.s20 true
 have hx9:=tC.pub (tB.pub (tA.pub hx8 (by omega)) (by omega)) (by omega)
 have hT9:=hd_ (t7.out.trans ((Turn.grow (J:=JK K) hb8 hN7.out.wf).trans ((tA.mono jkK).trans ((tB.mono jkK).trans (tC.mono jkK)))))
 replace hC:=hd_ hC
 replace hx9:=hd_ hx9
 clear hA hB tA tB tC hN8 hx8
 refine hK _ _ ((ChgC.refl _ _).on hb8) ?_
 clear hK K1
 refine Z6l rfl ?_;go_big_quiet_step (fail);refine wpQuiet_nil ?_
 refine Z6l rfl ?_;go_big_quiet_step (fail);refine wpQuiet_nil ?_
 refine Z4j rfl (by kernel_rfl) ?_
 intro K1 hK
 go_simp
 refine hK _ _ (((ChgC.refl _ _).on hb8).set ⟨rfl,by simp⟩) ?_
 clear hK K1
 refine Z6l rfl ?_;go_big_quiet_step (fail);refine wpQuiet_nil ?_
 refine Z6l rfl ?_;go_big_quiet_step (fail);refine wpQuiet_nil ?_
 refine Z4j rfl (by kernel_rfl) ?_
 intro K1 hK
 go_simp
 refine hK _ _ ((((ChgC.refl _ _).on hb8).set ⟨rfl,by simp⟩).set ⟨rfl,by simp⟩) ?_
 clear hK K1
 refine Z6l rfl ?_;go_big_quiet_step (fail);refine wpQuiet_nil ?_
 refine Z6l rfl ?_;go_big_quiet_step (fail);refine wpQuiet_nil ?_
 refine Z4j rfl (by kernel_rfl) ?_
 intro K1 hK
 go_simp
 refine hK _ _ (((((ChgC.refl _ _).on hb8).set ⟨rfl,by simp⟩).set ⟨rfl,by simp⟩).set ⟨rfl,by simp⟩) ?_
 clear hK K1
 refine Z0c ?_
 obtain⟨W9,hW9⟩:∃ W9,W9=((w8.setCell ⟨a.b,11,none⟩ (.int .i64 u)).setCell ⟨a.b,12,none⟩ (.int .i64 (T:Int))).setCell ⟨a.b,20,none⟩ (.bool true):=⟨_,rfl⟩
 rw [← hW9]
 rw [← hW9] at hC hx9 hT9
 replace hC:=hd_ (show NdO own4 K W9 (a.wL lb) (s.ins1 L nc u T) out from hC.out)
 clear hx9
 replace hW9:=hd_ hW9
 clear q11 q12 q20 z11 z12 z20 hb8 u17 hla7 hla8
 go_upto_region 4 with (fail)
 go_cut [54] (fun z wx=>z=Z09 a.b∧∃ own1 qb1,NdO own1 K wx ((a.wL lb).wQ qb1) ((s.ins1 L nc u T).ins2 (Qd.fresh s.n T s.id)) out∧Turn (JK K) own own1 w wx)
 case first=>
  refine Z05 (fun _=>False) (.q 0 (.q 1 (.q 2 (.q 3 (.q 4 (.q 5 (.q 6 (.q 7 (.q 8 (.q 9 (.q 10 (.q 11 (.q 12 (.l 13 (.q 14 (.q 15 (.cut (.l 16 .fin)))))))))))))))))) (by kernel_rfl) (by kernel_rfl) ?_
  intro w10 hhw10 hbw10
  have hNw10:=hC.out.grow hbw10
  have u0:=Z01 (F:=fun _=>False) (b:=w10) (fun h=>h) (show w10.cell? ⟨a.b,0,none⟩=some (.int .i64 s.id) from hNw10.c 0)
  have u1:=Z01 (F:=fun _=>False) (b:=w10) (fun h=>h) (show w10.cell? ⟨a.b,1,none⟩=some (.int .i64 s.n) from hNw10.c 1)
  have hlw10:=hNw10.lt
  have u12:=Z01 (F:=fun _=>False) (b:=w10) (fun h=>h) (show w10.cell? ⟨a.b,12,none⟩=some (.int .i64 (T:Int)) from hNw10.c 12)
  have q21:w10.cell? ⟨a.b,21,none⟩=some (Z3f a.qb):=hNw10.c 21
  have z21:w10.frozen? ⟨a.b,21,none⟩=false:=hNw10.free 21
  have hT10:=hd_ (hT9.out.trans (Turn.grow (J:=JK K) hbw10 hC.out.wf))
  replace hNw10:=hd_ hNw10
  clear hhw10
  replace hbw10:=hd_ hbw10
  iterate 13 (refine Z0n rfl ?_;go_big_quiet_step (fail);refine wpQuiet_nil ?_)
  refine Z0j rfl (by kernel_rfl) ?_
  intro K1 hK
  go_simp
  have hmm:Z2x ((T:Nat):Int) s.n=true:=by rw [← hT2.out];exact hm.out
  cases hid:Z18 ((T:Nat):Int).toNat s.id
  ·refine (qNew_no2 s.n T s.id _ hmm hid).mono ?_
   rintro r w11 ⟨rfl,rfl⟩
   refine hK _ _ (Chg.refl _ _) ?_
   clear hK K1
   refine Z0n rfl ?_;go_big_quiet_step (fail);refine wpQuiet_nil ?_
   refine Z0n rfl ?_;go_big_quiet_step (fail);refine wpQuiet_nil ?_
   refine Z0h Z1j ?_
   refine Z0j rfl (by kernel_rfl) ?_
   intro K1 hK
   go_simp
   obtain⟨hN11,t11⟩:=hNw10.out.noQ
   refine hK _ _ (Z06 (Chg.refl _ _) trivial) ?_
   clear hK K1
   refine Z0c ?_
   have hfr:Qd.fresh s.n T s.id=none:=by unfold Qd.fresh;rw [hmm,hid];rfl
   have hT11:=hd_ (hT10.out.trans (t11.mono jkK))
   replace hN11:=hd_ hN11
   replace hfr:=hd_ hfr
   clear t11
   go_wp2_with fail
   go_meet
   exact⟨rfl,own4,none,by rw [hfr.out];exact hN11.out,hT11.out⟩
  ·refine (qNew_ok s.n T s.id _ hmm hid).mono ?_
   rintro r w11 ⟨rfl,hq11,hb11⟩
   refine hK _ _ (.of_below hb11) ?_
   clear hK K1
   have la11:a.b<w11.heap.size:=Nat.lt_of_lt_of_le hlw10 hb11.size
   have q21':w11.cell? ⟨a.b,21,none⟩=some (Z3f a.qb):=(hNw10.out.grow hb11).c 21
   have z21':w11.frozen? ⟨a.b,21,none⟩=false:=(hNw10.out.grow hb11).free 21
   refine Z0n rfl ?_;go_big_quiet_step (fail);refine wpQuiet_nil ?_
   refine Z0n rfl ?_;go_big_quiet_step (fail);refine wpQuiet_nil ?_
   refine Z0h Z1j ?_
   refine Z0j rfl (by kernel_rfl) ?_
   intro K1 hK
   go_simp
   obtain⟨own11,hN11,t11⟩:=hNw10.out.newQ ⟨s.n,T,s.id,z8,z8,0⟩ hb11 hq11
   refine hK _ _ (Z06 (Chg.refl _ _) trivial) ?_
   clear hK K1
   refine Z0c ?_
   have hfr:Qd.fresh s.n T s.id=some ⟨s.n,T,s.id,z8,z8,0⟩:=by unfold Qd.fresh;rw [hmm,hid];rfl
   have hT11:=hd_ (hT10.out.trans t11)
   replace hN11:=hd_ hN11
   replace hfr:=hd_ hfr
   clear t11
   go_wp2_with fail
   go_meet
   exact⟨rfl,own11,_,by rw [hfr.out];exact hN11.out,hT11.out⟩
 case rest=>
  obtain⟨rfl,own5,qb5,hN5,hT5'⟩:=hcut
  rename World=>w12
  obtain⟨qf,hqf⟩:∃ qf,Qd.fresh s.n T s.id=qf:=⟨_,rfl⟩
  rw [hqf] at hN5
  replace hqf:=hd_ hqf
  replace hN5:=hd_ hN5
  replace hT5':=hd_ hT5'
  go_upto_region 5 with (fail)
  refine Z05 (fun _=>False) (.q 0 (.q 1 (.q 2 (.q 3 (.q 4 (.q 5 (.q 6 (.q 7 (.q 8 (.q 9 (.q 10 (.q 11 (.l 12 (.cut (.l 13 .fin))))))))))))))) (by kernel_rfl) (by kernel_rfl) ?_
  intro w13 hhw13 hbw13
  have hNw13:=hN5.out.grow hbw13
  have u0:=Z01 (F:=fun _=>False) (b:=w13) (fun h=>h) (show w13.cell? ⟨a.b,0,none⟩=some (.int .i64 s.id) from hNw13.c 0)
  have hlw13:=hNw13.lt
  have u9:=Z01 (F:=fun _=>False) (b:=w13) (fun h=>h) (show w13.cell? ⟨a.b,9,none⟩=some (Z09 lb) from hNw13.c 9)
  have u21:=Z01 (F:=fun _=>False) (b:=w13) (fun h=>h) (show w13.cell? ⟨a.b,21,none⟩=some (Z3f qb5) from hNw13.c 21)
  have hT13:=hd_ (hT5'.out.trans (Turn.grow (J:=JK K) hbw13 hN5.out.wf))
  replace hNw13:=hd_ hNw13
  clear hhw13
  replace hbw13:=hd_ hbw13
  iterate 12 (refine Z0n rfl ?_;go_big_quiet_step (fail);refine wpQuiet_nil ?_)
  refine Z0j rfl (by kernel_rfl) ?_
  intro K1 hK
  go_simp
  refine (Z0m lb L _ hNw13.out.r.lg.rd).mono ?_
  rintro r w14 ⟨rfl,rfl⟩
  refine hK _ _ (Chg.refl _ _) ?_
  clear hK K1
  refine Z0h Z1j ?_
  refine Z0j rfl (by kernel_rfl) ?_
  intro K1 hK
  go_simp
  have hQA:Calls Tryz.prog 177 #[Z3f qb5, .int .i64 s.id, .int .i64 L.length, .int .i64 0] w13 fun r w'=>∃ b,r=.returned (.bool b)∧∃ own',NdO own' K w' ((a.wL lb).wQ qb5) ((s.ins1 L nc u T).ins2 (qf.map fun q=>q.ack s.id L.length 0)) out∧Turn (JK K) own5 own' w13 w':=by
   cases qf with
   | none=>
     have e:qb5=none:=hNw13.out.qnone rfl
     subst e
     refine (Ze4 s.id L.length 0 w13).mono ?_
     rintro r w' ⟨rfl,rfl⟩
     exact⟨false,rfl,own5,hNw13.out, .grow (Below.refl _ _) hNw13.out.wf⟩
   | some q=>
     obtain⟨qb,e,_,_⟩:=hNw13.out.qsome (q:=q) rfl
     have e:qb5=some qb:=e
     subst e
     have hqm:0≤q.mem∧q.mem<128:=by
      have e2:=hqf.out
      unfold Qd.fresh at e2
      split at e2
      ·injection e2 with e2;rw [← e2];show 0≤(T:Int)∧(T:Int)<128;omega
      ·cases e2
     refine (ndQAck hNw13.out (q:=q) rfl rfl hqm s.id L.length 0).mono ?_
     rintro r w' ⟨rfl,own',h1,h2⟩
     exact⟨_,rfl,own',h1,h2⟩
  refine hQA.mono ?_
  rintro r w14 ⟨bq,rfl,own6,hN14,t14⟩
  refine hK _ _ (Z0l t14) ?_
  clear hK K1
  refine Z0c ?_
  clear hQA
  have hT14:=hd_ (hT13.out.trans t14)
  obtain⟨qn,hqn⟩:∃ qn,qf.map (fun q=>q.ack s.id L.length 0)=qn:=⟨_,rfl⟩
  rw [hqn] at hN14
  replace hqn:=hd_ hqn
  clear t14 u0 u9 u21 hlw13
  have c9:w14.cell? ⟨a.b,9,none⟩=some (Z09 lb):=hN14.c 9
  have hlg:=hd_ (show rdLog w14 lb L from hN14.r.lg.rd)
  have q22:w14.cell? ⟨a.b,22,none⟩=some (.int .i64 s.start):=hN14.c 22
  have q23:w14.cell? ⟨a.b,23,none⟩=some (.int .i64 s.acked):=hN14.c 23
  have q32:w14.cell? ⟨a.b,32,none⟩=some a.av:=(Z00 hN14.blk 32).trans (Z6f _ _ hN14.ears)
  have q17:w14.cell? ⟨a.b,17,none⟩=some (Z3f a.v):=hN14.c 17
  have z22:w14.frozen? ⟨a.b,22,none⟩=false:=hN14.free 22
  have z23:w14.frozen? ⟨a.b,23,none⟩=false:=hN14.free 23
  have z32:w14.frozen? ⟨a.b,32,none⟩=false:=hN14.free 32
  have z17:w14.frozen? ⟨a.b,17,none⟩=false:=hN14.free 17
  have la14:a.b<w14.heap.size:=hN14.lt
  obtain⟨hA,tA⟩:=hN14.s22 (L.length:Int)
  obtain⟨hB,tB⟩:=hA.s23 0
  obtain⟨hC,tC⟩:=hB.s32n
  obtain⟨hD,tD⟩:=hC.s17n
  have hT15:=hd_ (hT14.out.trans ((tA.mono jkK).trans ((tB.mono jkK).trans ((tC.mono jkK).trans (tD.mono jkK)))))
  replace hD:=hd_ hD
  clear hA hB hC tA tB tC tD
  replace hN14:=hd_ hN14
  go_wp2_with fail
  refine (Z0m lb L _ hlg.out).mono ?_
  rintro r w15 ⟨rfl,rfl⟩
  go_wp2
  obtain⟨W15,hW15⟩:∃ W15,W15=(((w14.setCell ⟨a.b,22,none⟩ (.int .i64 L.length)).setCell ⟨a.b,23,none⟩ (.int .i64 0)).setCell ⟨a.b,32,none⟩ (.slice none 0 0)).setCell ⟨a.b,17,none⟩ (.pointer none):=⟨_,rfl⟩
  have hN15:=hd_ (show NdO own6 K W15 ((a.wL lb).wQ qb5).w0 (((s.ins1 L nc u T).ins2 qn).ins3 L.length) out from hW15 ▸ hD.out)
  replace hT15:=hd_ (show Turn (JK K) own own6 w W15 from hW15 ▸ hT15.out)
  rw [← hW15]
  replace hW15:=hd_ hW15
  obtain⟨s4,hs4⟩:∃ s4,((s.ins1 L nc u T).ins2 qn).ins3 L.length=s4:=⟨_,rfl⟩
  obtain⟨a4,ha4⟩:∃ a4,((a.wL lb).wQ qb5).w0=a4:=⟨_,rfl⟩
  have hb4:a4.b=a.b:=by rw [← ha4];rfl
  have hA4:At0 a a4:=by rw [← ha4];exact⟨rfl,rfl,rfl,rfl,rfl⟩
  rw [hs4,ha4] at hN15
  have hs4c:s4.clock=s.clock:=by rw [← hs4];rfl
  have hs4m:s4.mem=T:=by rw [← hs4];rfl
  have hs4L:s4.L=L:=by rw [← hs4];rfl
  replace hs4:=hd_ hs4
  replace ha4:=hd_ ha4
  replace hs4L:=hd_ hs4L
  replace hs4m:=hd_ hs4m
  have he4:=hd_ hN15.out.ears
  replace hb4:=hd_ hb4
  replace hs4c:=hd_ hs4c
  clear hD c9 q22 q23 q32 q17 z22 z23 z32 z17 la14 hlg hN14
  go_loopw [101] (fun i wr=>∃ k:Nat,k≤8∧i=.int .i64 k∧NdO own6 K wr a4 (s4.insE k) out∧Turn (JK K) own6 own6 W15 wr) (fun i _=>8-(intOf i).toNat)
  case atStart=>exact⟨0,Nat.zero_le _,rfl,hN15.out, .grow (Below.refl _ _) hN15.out.wf⟩
  case round=>
   obtain⟨k,hk,rfl,hNk,htk⟩:=hrel
   replace hNk:=hd_ hNk
   replace htk:=hd_ htk
   by_cases hk8:k<8
   ·go_upto_region 10 with (fail)
    refine Z05 (fun _=>False) (.q 0 (.q 1 (.q 2 (.q 3 (.q 4 (.q 5 (.q 6 (.q 7 (.q 8 (.cut (.l 9 .fin))))))))))) (by kernel_rfl) (by kernel_rfl) ?_
    intro w16 hhw16 hbw16
    have hNw16:=hNk.out.grow hbw16
    have hlw16:=hNw16.lt
    have u4:=Z01 (F:=fun _=>False) (b:=w16) (fun h=>h) (show w16.cell? ⟨a.b,4,none⟩=some (.int .i64 s.clock) from by rw [← hb4.out,← hs4c.out];exact hNw16.c 4)
    have hte:=hd_ (htk.out.trans (Turn.grow (J:=JK K) hbw16 hNk.out.wf))
    have hek:((s4.insE k).ears).length=8:=hNw16.ears
    have qe:w16.cell? ⟨a.b,24+k,none⟩=some (.int .i64 ((s4.insE k).ears.getD k 0)):=by rw [← hb4.out];exact (Z00 hNw16.blk (24+k)).trans (Zce _ _ hNw16.ears k hk8)
    have ze:w16.frozen? ⟨a.b,24+k,none⟩=false:=by rw [← hb4.out];exact hNw16.free (24+k)
    rw [hb4.out] at hlw16
    generalize (s4.insE k).ears.getD k 0=ek at qe
    obtain⟨hE,tE⟩:=hNw16.sear k hk8 s.clock
    have hE2:NdO own6 K (w16.setCell ⟨a.b,24+k,none⟩ (.int .i64 s.clock)) a4 (s4.insE (k+1)) out:=by
     rw [← hb4.out]
     have e:{ s4.insE k with ears:=(s4.insE k).ears.set k s.clock }=s4.insE (k+1):=by
      unfold Nd.insE
      rw [← hs4c.out]
      exact congrArg (fun l=>({ s4 with ears:=l }:Nd)) (Ziw s4 he4.out k hk8)
     rw [← e]
     exact hE
    have htE:=hd_ (show Turn (JK K) own6 own6 W15 (w16.setCell ⟨a.b,24+k,none⟩ (.int .i64 s.clock)) from by rw [← hb4.out];exact hte.out.trans (tE.mono jkK))
    replace hE2:=hd_ hE2
    clear hE tE hek
    replace hNw16:=hd_ hNw16
    clear hhw16
    replace hbw16:=hd_ hbw16
    iterate 9 (refine Z0n rfl ?_;go_big_quiet_step (fail);refine wpQuiet_nil ?_)
    refine Z0h Z1j ?_
    refine Z0j rfl (by kernel_rfl) ?_
    intro K1 hK
    go_simp
    refine hK _ _ (Z06 (Chg.refl _ _) trivial) ?_
    clear hK K1
    refine Z0c ?_
    go_wp2
    go_roundw
    case rel=>exact⟨k+1,by omega,by go_num,hE2.out,htE.out⟩
    case measure=>simp [intOf];omega
   ·obtain rfl:k=8:=by omega
    obtain⟨s5,hs5⟩:∃ s5,s4.insE 8=s5:=⟨_,rfl⟩
    have hN17:=hNk.out
    rw [hs5] at hN17
    have hs5c:s5.clock=s.clock:=by rw [← hs5];exact hs4c.out
    have c4:wr.cell? ⟨a.b,4,none⟩=some (.int .i64 s.clock):=by rw [← hb4.out,← hs5c];exact hN17.c 4
    have q5:wr.cell? ⟨a.b,5,none⟩=some (.int .i64 s5.heard):=by rw [← hb4.out];exact hN17.c 5
    have z5:wr.frozen? ⟨a.b,5,none⟩=false:=by rw [← hb4.out];exact hN17.free 5
    have la17:a.b<wr.heap.size:=by rw [← hb4.out];exact hN17.lt
    obtain⟨hF,tF⟩:=hN17.s5 s.clock
    obtain⟨s6,hs6⟩:∃ s6:Nd,{ s5 with heard:=s.clock }=s6:=⟨_,rfl⟩
    rw [hs6] at hF
    have hT18:=hd_ (hT15.out.trans (htk.out.trans (tF.mono jkK)))
    have hs6e:s6=(s.installs u l):=by
     have hb1:(Z57 l).lg=yl:=by rw [hbest.out];exact hyl.out
     have hb2:(Z57 l).com=bc:=by rw [hbest.out]
     rw [← hs6,← hs5]
     unfold Nd.insE
     rw [← hs4.out]
     unfold Nd.installs
     simp only [hb1,hb2,hL.out,hnc.out,hT2.out,hqf.out,hqn.out]
     have he8:s.ears.length=8:=h.out.ears
     show ({ id:=_,n:=_,boot:=_,clock:=_,heard:=_,knows:=_,L:=_,com:=_,last:=_,mem:=_,pend:=_,pseq:=_,td:=_,tb:=_,pf:=_,v:=_,denied:=_,again:=_,mine:=_,q:=_,start:=_,acked:=_,ears:=List.replicate 8 s.clock++s.ears.drop 8,asked:=_,boots:=_,jp:=_,dv:=_ }:Nd)=_
     rw [List.drop_of_length_le (by omega),List.append_nil]
     rfl
    have hs6m:s6.mem=T:=by rw [hs6e];show ((Z0v (mkV l):Nat):Int)=T;rw [hT2.out]
    have hs6L:s6.L.length≤60:=by rw [hs6e];show (Z2y (Z57 l).lg).length≤60;exact Z2d _
    obtain⟨W18,hW18⟩:∃ W18,W18=wr.setCell ⟨a.b,5,none⟩ (.int .i64 s.clock):=⟨_,rfl⟩
    rw [hb4.out,← hW18] at hF hT18
    have c12:W18.cell? ⟨a.b,12,none⟩=some (.int .i64 (T:Int)):=by rw [← hb4.out,← hs6m];exact hF.c 12
    have la18:a.b<W18.heap.size:=by rw [← hb4.out];exact hF.lt
    replace hF:=hd_ hF
    replace hs5:=hd_ hs5
    replace hs6:=hd_ hs6
    replace hs6e:=hd_ hs6e
    clear tF hN17
    go_upto_region 13 with (fail)
    rw [← hW18]
    replace hW18:=hd_ hW18
    clear c4 q5 z5 la17
    go_wp2_with fail
    have h60:=hs6L
    have hO:=Z61 hF.out T hT128 135 #[Z09 a.b] #[] (Zam Tryz.func135 (by kernel_rfl) (by kernel_rfl)) s6.whole (fun own1 a1 out1 w1 k h1 e1 t1 hlen hk=>Z8i h1 k a.b (e1.b.trans hb4.out) h60 (by omega))
    rw [hb4.out] at hO
    refine hO.mono ?_
    rintro r w19 ⟨rfl,hst⟩
    have hst2:=hd_ (hst.after hA4 hT18)
    clear hst hO
    go_wp2
    go_end0
    refine⟨rfl,?_⟩
    have:=hst2.out
    rw [hs6e.out] at this
    have hi:s.install u l=(s.installs u l,((s.installs u l).others (s.installs u l).mem).map (s.installs u l).whole):=rfl
    rw [hi]
    have hmm:((s.installs u l).mem).toNat=T:=by rw [← hs6e.out,hs6m];rfl
    unfold Nd.others
    rw [hmm]
    exact this
end
end
section
open Go.RowKit
theorem Zed (f:Int→List Ms) (B:Nat) (h:∀ k,(f k).length≤B):∀ l:List Int,(l.flatMap f).length≤B*l.length
 | []=>by simp
 | x :: l=>by
   have:=Zed f B h l
   have:=h x
   rw [List.flatMap_cons,List.length_append,List.length_cons,Nat.mul_add];omega
def gsay (s:Nd) (T:Nat) (u k:Int):List Ms:=if !Z18 T k then [{ s.ms 1 k with view:=u }] else []
theorem Z7g {α β:Type} (p:α→Bool) (g:α→β):∀ l:List α,(l.filter p).map g=l.flatMap fun k=>if p k then [g k] else []
 | []=>rfl
 | x :: l=>by
   rw [List.filter_cons,List.flatMap_cons,← Z7g p g l]
   cases p x<;>rfl
section
variable {own:Nat→Nat} {K:Nat} {w:World} {a:NdAt} {s:Nd} {out:List MsS}
theorem Zcn (h:NdO own K w a s out) (T:Nat) (hT:T<128) (fn:FuncId) (pre caps:Array Value) (hfn:∀ args w,(callFunc fn args).run Tryz.prog w=.ok (.enter fn args) w) (f:Int→List Ms)
  (B:Nat) (hB:∀ k,(f k).length≤B) (hst:∀ own1 a1 out1 w1 k,NdO own1 K w1 a1 s out1→At0 a a1→Turn (JK K) own own1 w w1→out1.length≤out.length+7*B→k ∈ Z16 s.id s.n T →
   Calls Tryz.prog fn (pre.push (.int .i64 k)++caps) w1 fun r w2=>r=.returned (.tuple #[])∧∃ own2 a2 o2,NdO own2 K w2 a2 s o2∧o2.map MsS.m=out1.map MsS.m++f k∧At0 a1 a2∧Turn (JK K) own1 own2 w1 w2) :
  Calls Tryz.prog 125 #[Z09 a.b, .int .i64 (T:Int), .func (.func fn) pre caps] w fun r w'=>r=.returned (.tuple #[])∧Stp own K w a w' s (out.map MsS.m++(Z16 s.id s.n T).flatMap f):=by
 have h16:=h.r.k16
 have hle:(Z16 s.id s.n T).length≤7:=Nat.le_trans (List.length_filter_le _ _) (Z38 T 7)
 refine (Z4s a.b s.id s.n T hT fn pre caps hfn (fun wb l w1=>∃ own1 a1 o1,NdO own1 K w1 a1 s o1∧o1.map MsS.m=out.map MsS.m++l.flatMap f∧At0 a a1∧Turn (JK K) own own1 w w1 ∧
   ∀ c,w.heap.size≤c→c<wb.heap.size→own1 c=0∧c<w1.heap.size∧w1.heap[c]?=wb.heap[c]?) w ?_ (h.c 0) ?_ ?_ ?_).mono ?_
 ·exact fun wb hb=>⟨own,a,out,h.grow hb,by simp, .refl a, .grow hb h.wf,fun c h1 h2=>⟨h.wf c h1,h2,rfl⟩⟩
 ·rintro wb l w1 ⟨own1,a1,o1,h1,e1,e2,e3,e4⟩
  exact⟨h1.cb e2.b 0,h1.cb e2.b 1⟩
 ·rintro wb l w1 ⟨own1,a1,o1,h1,e1,e2,e3,e4⟩ c hc1 hc2
  exact (e4 c hc1 hc2).2.2
 ·rintro wb l k w1 ⟨own1,a1,o1,h1,e1,e2,e3,e4⟩ hpre
  have hk:k ∈ Z16 s.id s.n T:=hpre.subset (by simp)
  have hlen:o1.length≤out.length+7*B:=by
   have:=congrArg List.length e1
   rw [List.length_map,List.length_append,List.length_map] at this
   have h1:=Zed f B (fun k=>hB k) l
   have:=hpre.length_le
   simp only [List.length_append,List.length_singleton] at this
   have h2:B*l.length≤B*7:=Nat.mul_le_mul_left _ (by omega)
   omega
  refine (hst own1 a1 o1 w1 k h1 e2 e3 hlen hk).mono ?_
  rintro r w2 ⟨rfl,own2,a2,o2,h2,f1,f2,f3⟩
  refine⟨rfl,own2,a2,o2,h2,by rw [f1,e1,List.flatMap_append,List.append_assoc];simp,e2.trans f2,e3.trans f3,fun c hc1 hc2=>?_⟩
  obtain⟨g1,g2,g3⟩:=e4 c hc1 hc2
  exact⟨(f3.old c g2).trans g1,Nat.lt_of_lt_of_le g2 f3.chg.size,(f3.chg.block c g2 (by rw [g1];exact jk0 h16)).trans g3⟩
 ·rintro r w' ⟨rfl,wb,hb,own1,a1,o1,h1,e1,e2,e3,e4⟩
  exact⟨rfl,own1,a1,o1,h1,e1,e2,e3⟩
theorem Z6g (h:NdO own K w a s out) (hm:0≤s.mem∧s.mem<128) :
  Calls Tryz.prog 73 #[Z09 a.b] w fun r w'=>r=.returned (.bool s.decides)∧Below w.heap.size w w':=by
 have e:s.decides=(s.in_&&s.mine):=rfl
 rw [e]
 have hI:=hd_ (Z41 own K a s out w h hm)
 replace h:=hd_ h
 generalize s.in_=b at hI ⊢
 go_enter Tryz.func73,Tryz.ntmps73
 go_wp2_with fail
 refine hI.out.mono ?_
 rintro r w1 ⟨rfl,hb1⟩
 have h1:=h.out.grow hb1
 have c20:w1.cell? ⟨a.b,20,none⟩=some (.bool s.mine):=h1.c 20
 have la:=h1.lt
 replace hb1:=hd_ hb1
 replace h1:=hd_ h1
 clear hI e
 cases b
 ·go_wp2
  go_ret
  exact⟨rfl,hb1.out⟩
 ·go_wp2
  go_ret
  exact⟨rfl,hb1.out⟩
theorem Zar (h:NdO own K w a s out) (k u:Int) (l:List Vt) (b pb:Nat) (hb:a.b=b) (hv:s.v=some (u,l)) (h1:w.heap[pb]?=some (.cells #[Z09 b] 30 (0,0))) (hpo:own pb=0) (hl:out.length≤1000000000) :
  Calls Tryz.prog 126 #[.int .i64 k, .pointer (some ⟨pb,0,none⟩)] w fun r w'=>r=.returned (.tuple #[])∧∃ own2 a2 o2,NdO own2 K w' a2 s o2 ∧
   o2.map MsS.m=out.map MsS.m++gsay s (Z0v (mkV l)) u k∧At0 a a2∧Turn (JK K) own own2 w w':=by
 subst hb
 obtain⟨vb,hav⟩:=h.vsome hv
 obtain⟨ls,hls,hvt⟩:=h.votes hv hav
 obtain⟨T,hT⟩:∃ T,Z0v ls=T:=⟨_,rfl⟩
 have hT2:Z0v (mkV l)=T:=by rw [hls,Z8g,hT]
 have hT128:T<128:=by rw [← hT];exact Z31 _
 rw [hT2]
 have c1:w.cell? ⟨pb,0,none⟩=some (Z09 a.b):=Z00 h1 0
 have c17:=h.c17 hav
 have l1:=Z04 h1
 have la:=h.lt
 have h16:=h.r.k16
 have hrd:=hd_ hvt.rd
 replace hv:=hd_ hv
 replace hav:=hd_ hav
 replace hls:=hd_ hls
 replace h:=hd_ h
 replace h1:=hd_ h1
 clear hvt hT2
 go_enter Tryz.func126,Tryz.ntmps126
 go_wp2_with fail
 refine (Z54 vb u s.n ls _ hrd.out).mono ?_
 rintro r w1 ⟨rfl,hb1⟩
 rw [hT]
 go_wp2_with fail
 refine (Z5k T k _ hT128).mono ?_
 rintro r w2 ⟨rfl,rfl⟩
 have hN1:=hd_ (h.out.grow hb1)
 have t1:=hd_ (Turn.grow (J:=JK K) (own:=own) hb1 h.out.wf)
 have hp1:=hd_ (Z02 h1.out hb1)
 have hrd1:=hd_ (hrd.out.grow hb1)
 clear c1 c17 l1 la hb1 hT
 obtain⟨hh,hhe⟩:∃ hh,Z18 T k=hh:=⟨_,rfl⟩
 rw [hhe]
 cases hh
 case true=>
  go_wp2
  go_end0
  refine⟨rfl,own,a,out,hN1.out,?_, .refl a,t1.out⟩
  unfold gsay
  rw [hhe];simp
 go_upto_region 1 with (fail)
 refine Z05 (fun _=>False) (.q 0 (.q 1 (.q 2 (.q 3 (.q 4 (.q 5 (.l 6 (.l 7 (.cut (.l 8 .fin)))))))))) (by kernel_rfl) (by kernel_rfl) ?_
 intro w3 hhw3 hbw3
 have hNw3:=hN1.out.grow hbw3
 have hlw3:=hNw3.lt
 have hp3:=Z02 hp1.out hbw3
 have up:=Z01 (F:=fun _=>False) (b:=w3) (fun h=>h) (show w3.cell? ⟨pb,0,none⟩=some (Z09 a.b) from Z00 hp3 0)
 have u17:=Z01 (F:=fun _=>False) (b:=w3) (fun h=>h) (hNw3.c17 hav.out)
 have hlp:=Z04 hp3
 have t3:=hd_ (t1.out.trans (Turn.grow (J:=JK K) hbw3 hN1.out.wf))
 have hrd3:=hd_ (hrd1.out.grow hbw3)
 replace hp3:=hd_ hp3
 replace hNw3:=hd_ hNw3
 clear hhw3
 replace hbw3:=hd_ hbw3
 iterate 6 (refine Z0n rfl ?_;go_big_quiet_step (fail);refine wpQuiet_nil ?_)
 refine Z0j rfl (by kernel_rfl) ?_
 intro K1 hK
 go_simp
 refine (Z53 vb u s.n ls _ hrd3.out).mono ?_
 rintro r w4 ⟨rfl,rfl⟩
 refine hK _ _ (Chg.refl _ _) ?_
 clear hK K1
 refine Z0j rfl (by kernel_rfl) ?_
 intro K1 hK
 go_simp
 refine hK _ _ (Chg.refl _ _) ?_
 clear hK K1
 refine Z0h Z1j ?_
 refine Z0j rfl (by kernel_rfl) ?_
 intro K1 hK
 go_simp
 refine (Z6n hNw3.out ⟨1,0,k,0,u,0,0,0,[],0,0,0,false⟩ none 0 (Z4e _ _) hl).mono ?_
 rintro r w5 ⟨rfl,own5,a5,o5,hN5,e5,f5,t5⟩
 refine hK _ _ (Z0l t5) ?_
 clear hK K1
 refine Z0c ?_
 have hT5:=hd_ (t3.out.trans t5)
 replace hN5:=hd_ hN5
 replace e5:=hd_ e5
 clear t5
 go_wp2
 go_end0
 exact⟨rfl,own5,a5,o5,hN5.out,by rw [e5.out];unfold gsay;rw [hhe];rfl,f5,hT5.out⟩
theorem Zco (c:Nat) (h:NdO own K w a s out) (hok:Ok c s) (hl:out.length≤1000000) (hc:c≤1000000000) (u:Int) (l:List Vt) (hv:s.v=some (u,l)) :
  Calls Tryz.prog 72 #[Z09 a.b] w fun r w'=>r=.returned (.tuple #[])∧Stp own K w a w' (s.gather u l).1 (out.map MsS.m++(s.gather u l).2):=by
 obtain⟨vb,hav⟩:=h.vsome hv
 obtain⟨ls,hls,hvt⟩:=h.votes hv hav
 obtain⟨T,hT⟩:∃ T,Z0v ls=T:=⟨_,rfl⟩
 have hT2:Z0v (mkV l)=T:=by rw [hls,Z8g,hT]
 have h16:=h.r.k16
 have hn3:=hok.n3
 have hn7:=hok.n7
 obtain⟨W0,hW0⟩:∃ W,W=w.alloc (.cells #[Z09 a.b] 30):=⟨_,rfl⟩
 have hB0:Below w.heap.size w W0:=hW0 ▸ (Below.refl _ _).alloc (Nat.le_refl _) _
 have hp0:W0.heap[w.heap.size]?=some (.cells #[Z09 a.b] 30 (0,0)):=hW0 ▸ Z0a _ _
 obtain⟨pb,hpb⟩:∃ pb,pb=w.heap.size:=⟨_,rfl⟩
 rw [← hpb] at hp0
 have hN0:=h.grow hB0
 have hpo:own pb=0:=h.wf pb (by omega)
 have t0:=hd_ (Turn.grow (J:=JK K) (own:=own) hB0 h.wf)
 have c0:W0.cell? ⟨pb,0,none⟩=some (Z09 a.b):=Z00 hp0 0
 have c17:=hN0.c17 hav
 have l0:=Z04 hp0
 have la0:=hN0.lt
 have hrd0:=hd_ (hvt.grow hB0).rd
 obtain⟨m,hmm⟩:∃ m,Z2x (T:Int) s.n=m:=⟨_,rfl⟩
 have hgat:s.gather u l=if m then s.install u l else if s.again||s.late then s.propose else (s,((s.others s.all).filter fun k => !Z18 T k).map fun k=>{ s.ms 1 k with view:=u }):=by
  unfold Nd.gather;rw [hT2,hmm]
 obtain⟨R,hR⟩:∃ R,s.gather u l=R:=⟨_,rfl⟩
 rw [hR]
 rw [hR] at hgat
 obtain⟨ag,hag⟩:∃ ag,s.again=ag:=⟨_,rfl⟩
 obtain⟨lt,hlt⟩:∃ lt,s.late=lt:=⟨_,rfl⟩
 rw [hag,hlt] at hgat
 replace hgat:=hd_ hgat
 replace hR:=hd_ hR
 replace hN0:=hd_ hN0
 replace hp0:=hd_ hp0
 replace hok:=hd_ hok
 replace hv:=hd_ hv
 replace hav:=hd_ hav
 replace hls:=hd_ hls
 replace hpb:=hd_ hpb
 replace hT2:=hd_ hT2
 clear h hvt hB0
 go_enter Tryz.func72,Tryz.ntmps72
 go_upto_region 2 with (fail)
 rw [← hW0,← hpb.out]
 replace hW0:=hd_ hW0
 go_wp2_with fail
 refine (Z73 vb u s.n ls _ hrd0.out).mono ?_
 rintro r w1 ⟨rfl,hb1⟩
 rw [hT,hmm]
 have hN1:=hd_ (hN0.out.grow hb1)
 have t1:=hd_ (t0.out.trans (Turn.grow (J:=JK K) hb1 hN0.out.wf))
 have hp1:=Z02 hp0.out hb1
 have c1:w1.cell? ⟨pb,0,none⟩=some (Z09 a.b):=Z00 hp1 0
 have l1:=Z04 hp1
 have la1:=hN1.out.lt
 have c19:w1.cell? ⟨a.b,19,none⟩=some (.bool s.again):=hN1.out.c 19
 replace hp1:=hd_ hp1
 replace hT:=hd_ hT
 clear hb1 c0 c17 l0 la0 hrd0
 cases m
 case true=>
  go_wp2_with fail
  refine (Zaq c hN1.out hok.out hl u l hv.out (by rw [hT2.out];exact hmm)).mono ?_
  rintro r w2 ⟨rfl,hst⟩
  have hst2:=hd_ (hst.after (.refl a) t1.out)
  clear hst
  go_wp2
  go_end0
  have e:R=s.install u l:=hgat.out
  rw [e]
  exact⟨rfl,hst2.out⟩
 replace hmm:=hd_ hmm
 have hLt:=hd_ (Zak own K a s out w1 hN1.out (by have:=hok.out.c0;omega) (by have:=hok.out.c1;omega) (by have:=hok.out.h0;omega) (by have:=hok.out.h1;have:=hok.out.c1;omega) (by have:=hok.out.i1;omega) (by have:=hok.out.in_;omega))
 rw [hag] at c19
 rw [hlt] at hLt
 replace hag:=hd_ hag
 replace hlt:=hd_ hlt
 go_upto_region 4 with (fail)
 go_cut [19] (fun z wx=>z=.bool (ag||lt)∧Below w1.heap.size w1 wx)
 case first=>
  cases ag
  case true=>
   go_wp2_with fail
   go_meet
   exact⟨rfl,Below.refl _ _⟩
  case false=>
   go_wp2_with fail
   refine hLt.out.mono ?_
   rintro r w2 ⟨rfl,hb2⟩
   replace hb2:=hd_ hb2
   go_wp2_with fail
   go_meet
   exact⟨by simp,hb2.out⟩
 case rest=>
  obtain⟨rfl,hb2⟩:=hcut
  rename World=>w2
  obtain⟨al,hal⟩:∃ al,(ag||lt)=al:=⟨_,rfl⟩
  rw [hal]
  replace hal:=hd_ hal
  have hN2:=hd_ (hN1.out.grow hb2)
  have t2:=hd_ (t1.out.trans (Turn.grow (J:=JK K) hb2 hN1.out.wf))
  have hp2:=Z02 hp1.out hb2
  have c2:w2.cell? ⟨pb,0,none⟩=some (Z09 a.b):=Z00 hp2 0
  have l2:=Z04 hp2
  replace hp2:=hd_ hp2
  clear hb2 c1 l1 la1 c19
  cases al
  case true=>
   go_wp2_with fail
   refine (Z43 c hN2.out hok.out hl).mono ?_
   rintro r w3 ⟨rfl,hst⟩
   have hst2:=hd_ (hst.after (.refl a) t2.out)
   clear hst
   go_wp2
   go_end0
   have e:R=s.propose:=by rw [hgat.out,hal.out];rfl
   rw [e]
   exact⟨rfl,hst2.out⟩
  go_upto_region 1 with (fail)
  refine Z05 (fun _=>False) (.q 0 (.q 1 (.q 2 (.q 3 (.q 4 (.q 5 (.q 6 (.l 7 (.cut (.l 8 .fin)))))))))) (by kernel_rfl) (by kernel_rfl) ?_
  intro w3 hhw3 hbw3
  have hNw3:=hN2.out.grow hbw3
  have u1:=Z01 (F:=fun _=>False) (b:=w3) (fun h=>h) (show w3.cell? ⟨a.b,1,none⟩=some (.int .i64 s.n) from hNw3.c 1)
  have hlw3:=hNw3.lt
  have hp3:=Z02 hp2.out hbw3
  have up:=Z01 (F:=fun _=>False) (b:=w3) (fun h=>h) (show w3.cell? ⟨pb,0,none⟩=some (Z09 a.b) from Z00 hp3 0)
  have hlp:=Z04 hp3
  have t3:=hd_ (t2.out.trans (Turn.grow (J:=JK K) hbw3 hN2.out.wf))
  replace hp3:=hd_ hp3
  replace hNw3:=hd_ hNw3
  clear hhw3
  replace hbw3:=hd_ hbw3
  iterate 7 (refine Z0n rfl ?_;go_big_quiet_step (fail);refine wpQuiet_nil ?_)
  refine Z0j rfl (by kernel_rfl) ?_
  intro K1 hK
  go_simp
  refine hK _ _ (Chg.refl _ _) ?_
  clear hK K1
  refine Z0h Z1j ?_
  refine Z0j rfl (by kernel_rfl) ?_
  intro K1 hK
  go_simp
  have hT':=Ziv s.n hn3 hn7
  have hTl:2 ^ s.n.toNat-1<128:=by
   rcases (by omega:s.n=3∨s.n=4∨s.n=5∨s.n=6∨s.n=7) with e | e | e | e | e<;>rw [e]<;>decide
  have hTa:s.all.toNat=2 ^ s.n.toNat-1:=by
   unfold Nd.all
   rcases (by omega:s.n=3∨s.n=4∨s.n=5∨s.n=6∨s.n=7) with e | e | e | e | e<;>rw [e]<;>rfl
  rw [hT']
  refine (Zcn hNw3.out (2 ^ s.n.toNat-1) hTl 126 #[] #[.pointer (some ⟨pb,0,none⟩)] (Zam Tryz.func126 (by kernel_rfl) (by kernel_rfl)) (gsay s (Z0v (mkV l)) u) 1 (fun k=>by unfold gsay;split<;>simp) ?_).mono ?_
  ·intro own1 a1 out1 w1 k h1 e1 t1 hlen hk
   exact Zar h1 k u l a.b pb e1.b hv.out (t1.pub hp3.out (by rw [hpo];exact jk0 h16)) ((t1.old pb hlp).trans hpo) (by omega)
  rintro r w16 ⟨rfl,hst⟩
  refine hK _ _ (by obtain⟨_,_,_,_,_,_,t⟩:=hst;exact Z0l t) ?_
  clear hK K1
  refine Z0c ?_
  have hst2:=hd_ (hst.after (.refl a) t3.out)
  clear hst hT'
  go_wp2
  go_end0
  refine⟨rfl,?_⟩
  have:=hst2.out
  have e:R=(s,((s.others s.all).filter fun k => !Z18 T k).map fun k=>{ s.ms 1 k with view:=u }):=by rw [hgat.out,hal.out];rfl
  rw [e]
  show Stp own K w a _ s (out.map MsS.m++((s.others s.all).filter fun k => !Z18 T k).map fun k=>{ s.ms 1 k with view:=u })
  rw [Z7g]
  unfold Nd.others
  rw [hTa]
  rw [hT2.out] at this
  exact this
end
end
section
open Go.RowKit
def Zfx (own:Nat→Nat) (K:Nat) (w:World) (a:NdAt) (w':World) (s':Nd) (msgs:List Ms) (v:Value):Prop:=
 ∃ own' a' o',NdO own' K w' a' s' []∧At0 a a'∧Turn (JK K) own own' w w'∧Given own' K w' v o'∧o'.map MsS.m=msgs∧a'.ov=.slice none 0 0
def Mg.ms (m:Mg):Ms:=⟨m.kind,m.frm,m.too,m.boot,m.view,m.last,m.mem,m.pos,[],m.com,m.num,m.clock,m.yes⟩
def Mg.mss (m:Mg):MsS:=⟨m.ms,none,0⟩
theorem Zix (l:List Mg):Z97 l=Z1h Z23 (l.map Mg.mss):=by
 unfold Z97 Z1h
 rw [List.flatMap_map]
 rfl
theorem Zfy (s:Nd) (h3:3≤s.n) (h7:s.n≤7) (h1:1≤s.id) (hn:s.id≤s.n):(Zcc s.id s.boot (Z9q s.id s.n.toNat)).map Mg.ms=s.joins:=by
 obtain⟨id,n,bo,cl,he,kn,L,co,la,me,pe,ps,td,tb,pf,v,de,ag,mi,q,st,ac,ears,as_,bs,jp,dv⟩:=s
 dsimp only at *
 have hi:id=1∨id=2∨id=3∨id=4∨id=5∨id=6∨id=7:=by omega
 rcases (by omega:n=3∨n=4∨n=5∨n=6∨n=7) with rfl | rfl | rfl | rfl | rfl<;>rcases hi with rfl | rfl | rfl | rfl | rfl | rfl | rfl
 all_goals first | rfl | omega
section
variable {own:Nat→Nat} {K:Nat} {w:World} {a:NdAt} {s:Nd} {out:List MsS}
theorem NdO.newO (h:NdO own K w a s out) {w1:World} {v:Value} {l:List Mg} (hb:Below w.heap.size w w1) (hv:ownM w1 w.heap.size v l) :
  ∃ own',NdO own' K (w1.setCell ⟨a.b,33,none⟩ v) { a with ov:=v } s (l.map Mg.mss)∧Turn (JK K) own own' w (w1.setCell ⟨a.b,33,none⟩ v):=by
 have hk:=h.r.k16
 have t:=Turn.extJ (own:=own) (J:=fun o=>o=K) (K+12) (w:=w) (w':=w1.setCell ⟨a.b,33,none⟩ v) (Z06 (.of_below hb) h.r.ob)
 have hlt:=h.lt
 have hs:(w1.setCell ⟨a.b,33,none⟩ v).heap.size=w1.heap.size:=World.size_setCell ..
 rw [hs] at t
 have hv1:ownG Z23 w1 w.heap.size 37 v (l.map Mg.mss):=by
  unfold ownG
  rw [← Zix,List.length_map]
  exact hv
 have hv2:ownG Z23 (w1.setCell ⟨a.b,33,none⟩ v) w.heap.size 37 v (l.map Mg.mss):=hv1.chg Z23 (Z06 (F:=fun k=>k=a.b) (Chg.refl _ _) rfl) fun k hk e=>by have:=(hv1.lt Z23 k hk).1;omega
 have hv3:ownG Z23 (w1.setCell ⟨a.b,33,none⟩ v) 0 37 v (l.map Mg.mss):=by
  obtain⟨h1,h2⟩:=hv2
  refine⟨h1,h2.imp id ?_⟩
  rintro⟨g,cap,cur,e1,e2,e3⟩
  exact⟨g,cap,cur,e1,Nat.zero_le _,e3⟩
 refine⟨_,⟨?_,h.ears,h.r.putO (t.mono fun o e=>.inl e) ⟨hv3,fun k hk=>Z20 (by have:=(hv1.lt Z23 k hk).1;omega) (hv1.lt Z23 k hk).2,fun x hx=>?_⟩⟩,t.mono jkK⟩
 ·rw [Z0d (o:=33) (u:=v) (Z02 h.blk hb)]
  rw [Z79 a s h.ears]
 ·obtain⟨m,_,rfl⟩:=List.mem_map.1 hx
  exact⟨⟨none,0,rfl,Nat.le_refl _,Nat.zero_le _,fun h=>absurd h (Nat.lt_irrefl 0)⟩,fun h=>absurd h (Nat.lt_irrefl 0)⟩
theorem xTick_of {P:(Nat→Nat)→World→Nd→Prop} (hS:SetOk P) (c:Nat) (h:NdO own K w a s []) (hok:Ok c s) (hc:c<1000000000) (hj:s.knows=false→s.v=none) (hP:∀ own1 w1,Turn (JK K) own own1 w w1→P own1 w1 ({ s with clock:=s.clock+1 }.tick0).1)
  (HD:s.decides=true→∀ own1 w1,NdO own1 K w1 a { s with clock:=s.clock+1 } []→Calls Tryz.prog 74 #[Z09 a.b] w1 fun r w'=>r=.returned (.tuple #[])∧Stp own1 K w1 a w' ({ s with clock:=s.clock+1 }.decide_).1 ({ s with clock:=s.clock+1 }.decide_).2)
  (HA:s.in_=true→∀ own1 w1,NdO own1 K w1 a { s with clock:=s.clock+1 } []→Calls Tryz.prog 78 #[Z09 a.b] w1 fun r w'=>r=.returned (.tuple #[])∧Stp own1 K w1 a w' ({ s with clock:=s.clock+1 }.ask).1 ({ s with clock:=s.clock+1 }.ask).2) :
  Calls Tryz.prog 23 #[Z09 a.b] w fun r w'=>∃ v,r=.returned v∧Zfx own K w a w' s.tick.1 s.tick.2 v:=by
 obtain⟨s1,hs1⟩:∃ s1,({ s with clock:=s.clock+1 }:Nd)=s1:=⟨_,rfl⟩
 have ht:s.tick=(s1.tick0.1.settle,s1.tick0.2):=by unfold Nd.tick;rw [hs1]
 rw [ht]
 rw [hs1] at hP HD HA
 have hok1:Ok (c+1) s1:=by
  rw [← hs1]
  exact { hok with c0:=by have:=hok.c0;show 0≤s.clock+1;omega,c1:=by have:=hok.c1;show s.clock+1≤((c+1:Nat):Int);omega,h1:=by have:=hok.h1;show s.heard≤s.clock+1;omega,q1:=by have:=hok.q1;show s.pf.num≤s.boot*1048576+((c+1:Nat):Int);omega }
 have hd1:s.decides=s1.decides:=by rw [← hs1];rfl
 have hi1:s.in_=s1.in_:=by rw [← hs1];rfl
 have hk1:s.knows=s1.knows:=by rw [← hs1]
 have hv1:s.v=s1.v:=by rw [← hs1]
 rw [hd1] at HD
 rw [hi1] at HA
 rw [hk1,hv1] at hj
 have q4:w.cell? ⟨a.b,4,none⟩=some (.int .i64 s.clock):=h.c 4
 have z4:=h.free 4
 have la:=h.lt
 have hcl0:=hok.c0
 have hcl1:=hok.c1
 obtain⟨hN1,t1⟩:=h.s4 (s.clock+1)
 rw [hs1] at hN1
 obtain⟨W1,hW1⟩:∃ W1,W1=w.setCell ⟨a.b,4,none⟩ (.int .i64 (s.clock+1)):=⟨_,rfl⟩
 rw [← hW1] at hN1 t1
 replace t1:=hd_ (t1.mono jkK)
 have c8:W1.cell? ⟨a.b,8,none⟩=some (.bool s1.knows):=hN1.c 8
 have la1:=hN1.lt
 replace hN1:=hd_ hN1
 replace h:=hd_ h
 replace hok:=hd_ hok
 replace hok1:=hd_ hok1
 replace hs1:=hd_ hs1
 replace hP:=hd_ hP
 replace HD:=hd_ HD
 replace HA:=hd_ HA
 replace hj:=hd_ hj
 clear ht hd1 hi1 hk1 hv1
 obtain⟨kn,hkn⟩:∃ kn,s1.knows=kn:=⟨_,rfl⟩
 rw [hkn] at c8
 obtain⟨R,hR⟩:∃ R,s1.tick0=R:=⟨_,rfl⟩
 rw [hR] at hP
 rw [hR]
 replace hR:=hd_ hR
 replace hkn:=hd_ hkn
 go_enter Tryz.func23,Tryz.ntmps23
 go_upto_region 4 with (fail)
 rw [← hW1]
 replace hW1:=hd_ hW1
 clear q4 z4 la
 cases kn
 case false=>
  have hjn:=(hN1.out.r.jn hkn.out hok1.out.j0).2
  have c7:W1.cell? ⟨a.b,7,none⟩=some (Z09 a.j):=hN1.out.c 7
  go_wp2_with fail
  refine (jAsk_any a.j s1.id s1.n s1.boot s1.jp mg0 false _ hjn hok1.out.i1 (by have:=hok1.out.n3;omega) hok1.out.n7).mono ?_
  rintro r w2 ⟨v2,rfl,ho2,hb2⟩
  obtain⟨ad2,cp2,hv2⟩:=ho2.rd.len
  subst hv2
  have hN1b:=hN1.out.grow hb2
  have q33:w2.cell? ⟨a.b,33,none⟩=some a.ov:=(Z00 hN1b.blk 33).trans (Zai a s1 hN1b.ears)
  have z33:w2.frozen? ⟨a.b,33,none⟩=false:=hN1b.free 33
  have la2:=hN1b.lt
  obtain⟨own3,hN3,t3⟩:=hN1.out.newO hb2 ho2
  obtain⟨W3,hW3⟩:∃ W3,W3=w2.setCell ⟨a.b,33,none⟩ (.slice ad2 (Zcc s1.id s1.boot (Z9q s1.id s1.n.toNat)).length cp2):=⟨_,rfl⟩
  rw [← hW3] at hN3 t3
  have hT3:=hd_ (t1.out.trans t3)
  replace hN3:=hd_ hN3
  clear t3 hjn c7 c8 la1 hb2 ho2 hN1b
  have hRe:R=(s1,s1.joins):=by
   rw [← hR.out]
   unfold Nd.tick0
   rw [hkn.out];rfl
  subst hRe
  go_upto_region 14 with (fail)
  rw [← hW3]
  replace hW3:=hd_ hW3
  clear q33 z33 la2
  go_wp2_with fail
  have hD:=Z3m hS hN3.out (hP.out _ _ hT3.out)
  refine hD.mono ?_
  rintro r w4 ⟨rfl,own4,hN4,t4,hg4⟩
  have hfin:Hid (Zfx own K w a w4 s1.settle s1.joins (.slice ad2 (Zcc s1.id s1.boot (Z9q s1.id s1.n.toNat)).length cp2)):=hd_ ⟨own4,_,_,hN4,⟨rfl,rfl,rfl,rfl,rfl⟩,hT3.out.trans t4,hg4,by rw [List.map_map];exact Zfy s1 hok1.out.n3 hok1.out.n7 hok1.out.i1 hok1.out.in_,rfl⟩
  clear hN4 t4 hg4 hD
  go_wp2
  go_ret
  exact⟨_,rfl,hfin.out⟩
 case true=>
  have hvm:=hN1.out.r.vt
  have hdv:=hN1.out.dv
  have c2:W1.cell? ⟨a.b,2,none⟩=some (.pointer (some ⟨a.dk,a.od,none⟩)):=hN1.out.c 2
  have c17:W1.cell? ⟨a.b,17,none⟩=some (Z3f a.v):=hN1.out.c 17
  have HV:Hid (∀ y,Calls Tryz.prog 60 #[.pointer (some ⟨a.dk,a.od,none⟩)] (Z1c W1 y) fun r w'=>r=.returned (.int .i64 s1.dv)∧∃ z,w'=Z1c W1 z):=hd_ fun y=>Z0o (Z1m _ _ _ _ (Z07 hdv y))
  go_upto_region 6 with (fail)
  go_cut [26] (fun z wx=>z=.bool (match s1.v with | some (u,_)=>u==s1.dv | none=>false)∧Below W1.heap.size W1 wx)
  case first=>
   have u2:=Z07 c2
   have u17:=Z07 c17
   cases hsv:s1.v with
   | none=>
     have hav:=hN1.out.vnone hsv
     rw [hav] at u17
     refine Z08 (by kernel_rfl) (by kernel_rfl) ?_
     repeat (go_big_quiet_step (fail))
     refine wpQuiet_nil ?_
     intro w2 hw2
     have hb2:=hd_ (Z0e hw2)
     clear hw2
     go_wp2_with fail
     go_meet
     exact⟨by rw [hsv],hb2.out⟩
   | some ul=>
     obtain⟨u,l⟩:=ul
     obtain⟨vb,hav⟩:=hN1.out.vsome hsv
     obtain⟨ls,hls,hvt⟩:=hN1.out.votes hsv hav
     rw [hav] at u17
     have HW:Hid (∀ y,Calls Tryz.prog 71 #[Z09 vb] (Z1c W1 y) fun r w'=>r=.returned (.int .i64 u)∧∃ z,w'=Z1c W1 z):=hd_ fun y=>Z0o (Z53 vb u s1.n ls _ ((hvt.grow (Z0s W1 y)).rd))
     refine Z08 (by kernel_rfl) (by kernel_rfl) ?_
     repeat (go_big_quiet_step (first | (go_at_call 60;exact HV.out _) | (go_at_call 71;exact HW.out _)))
     refine wpQuiet_nil ?_
     intro w2 hw2
     have hb2:=hd_ (Z0e hw2)
     clear hw2 hvt hls HW
     go_wp2_with fail
     go_meet
     exact⟨by rw [hsv],hb2.out⟩
  case rest=>
   obtain⟨rfl,hb2⟩:=hcut
   rename World=>w2
   have hN2:=hd_ (hN1.out.grow hb2)
   have t2:=hd_ (t1.out.trans (Turn.grow (J:=JK K) hb2 hN1.out.wf))
   clear hvm hdv c2 c17 HV c8 la1 hb2
   obtain⟨vb,hvb⟩:∃ vb,(match s1.v with | some (u,_)=>u==s1.dv | none=>false)=vb:=⟨_,rfl⟩
   rw [hvb]
   replace hvb:=hd_ hvb
   have hRest:vb=false→R=if s1.decides then s1.decide_ else if s1.late then s1.propose else if s1.in_ then s1.ask else (s1,[]):=by
    intro e
    have e2:=hvb.out
    rw [e] at e2
    rw [← hR.out]
    unfold Nd.tick0
    rw [hkn.out]
    cases hsv:s1.v with
    | none=>rfl
    | some ul=>
      obtain⟨u,l⟩:=ul
      rw [hsv] at e2
      show (if u==s1.dv then s1.gather u l else _)=_
      rw [if_neg (by rw [show (u==s1.dv)=false from e2];exact Bool.false_ne_true)]
   cases vb
   case true=>
    obtain⟨u,l,hsv,hud⟩:∃ u l,s1.v=some (u,l)∧(u==s1.dv)=true:=by
     have e2:=hvb.out
     cases hsv:s1.v with
     | none=>rw [hsv] at e2;cases e2
     | some ul=>obtain⟨u,l⟩:=ul;rw [hsv] at e2;exact⟨u,l,rfl,e2⟩
    have hRe:R=s1.gather u l:=by
     rw [← hR.out]
     unfold Nd.tick0
     rw [hkn.out,hsv]
     show (if u==s1.dv then s1.gather u l else _)=_
     rw [hud];rfl
    replace hRe:=hd_ hRe
    replace hsv:=hd_ hsv
    clear hRest hud
    go_wp2_with fail
    refine (Zco (c+1) hN2.out hok1.out (Nat.zero_le _) (by omega) u l hsv.out).mono ?_
    rintro r w3 ⟨rfl,hst⟩
    rw [← hRe.out] at hst
    have hst2:=hst.after (.refl a) t2.out
    obtain⟨ownz,az,oz,hNz,ez,fz,tz⟩:=hst2
    have hbz:=fz.b
    replace hNz:=hd_ hNz
    replace ez:=hd_ ez
    replace fz:=hd_ fz
    replace tz:=hd_ tz
    clear hst
    go_wp2_with fail
    have hD:=Z3m hS hNz.out (hP.out _ _ tz.out)
    rw [hbz] at hD
    refine hD.mono ?_
    rintro r wz ⟨rfl,ownd,hNd,td,hgd⟩
    have hfin:Hid (Zfx own K w a wz R.1.settle R.2 az.ov):=hd_ ⟨ownd,_,_,hNd,fz.out.trans ⟨hbz.symm,rfl,rfl,rfl,rfl⟩,tz.out.trans td,hgd,ez.out,rfl⟩
    clear hNd td hgd hD
    go_wp2
    go_ret
    exact⟨_,rfl,hfin.out⟩
   replace hRest:=hd_ (hRest rfl)
   obtain⟨dc,hdc⟩:∃ dc,s1.decides=dc:=⟨_,rfl⟩
   obtain⟨lt,hlt⟩:∃ lt,s1.late=lt:=⟨_,rfl⟩
   obtain⟨ni,hni⟩:∃ ni,s1.in_=ni:=⟨_,rfl⟩
   have hRt:=hRest.out
   rw [hdc,hlt,hni] at hRt
   replace hRt:=hd_ hRt
   clear hRest
   go_wp2_with fail
   refine (Z6g hN2.out ⟨hok1.out.m0,hok1.out.m1⟩).mono ?_
   rintro r w3 ⟨rfl,hb3⟩
   rw [hdc]
   have hN3:=hd_ (hN2.out.grow hb3)
   have t3:=hd_ (t2.out.trans (Turn.grow (J:=JK K) hb3 hN2.out.wf))
   clear hb3
   cases dc
   case true=>
    have hRe:R=s1.decide_:=hRt.out
    replace hRe:=hd_ hRe
    have hcall:=hd_ (HD.out hdc own w3 hN3.out)
    replace hdc:=hd_ hdc
    go_wp2_with fail
    refine hcall.out.mono ?_
    rintro r w4 ⟨rfl,hst⟩
    rw [← hRe.out] at hst
    have hst2:=hst.after (.refl a) t3.out
    obtain⟨ownz,az,oz,hNz,ez,fz,tz⟩:=hst2
    have hbz:=fz.b
    replace hNz:=hd_ hNz
    replace ez:=hd_ ez
    replace fz:=hd_ fz
    replace tz:=hd_ tz
    clear hst
    go_wp2_with fail
    have hD:=Z3m hS hNz.out (hP.out _ _ tz.out)
    rw [hbz] at hD
    refine hD.mono ?_
    rintro r wz ⟨rfl,ownd,hNd,td,hgd⟩
    have hfin:Hid (Zfx own K w a wz R.1.settle R.2 az.ov):=hd_ ⟨ownd,_,_,hNd,fz.out.trans ⟨hbz.symm,rfl,rfl,rfl,rfl⟩,tz.out.trans td,hgd,ez.out,rfl⟩
    clear hNd td hgd hD
    go_wp2
    go_ret
    exact⟨_,rfl,hfin.out⟩
   replace hdc:=hd_ hdc
   go_wp2_with fail
   refine (Zak own K a s1 [] w3 hN3.out (by have:=hok1.out.c0;omega) (by have:=hok1.out.c1;omega) (by have:=hok1.out.h0;omega) (by have:=hok1.out.h1;have:=hok1.out.c1;omega) (by have:=hok1.out.i1;omega) (by have:=hok1.out.in_;have:=hok1.out.n7;omega)).mono ?_
   rintro r w4 ⟨rfl,hb4⟩
   rw [hlt]
   have hN4:=hd_ (hN3.out.grow hb4)
   have t4:=hd_ (t3.out.trans (Turn.grow (J:=JK K) hb4 hN3.out.wf))
   clear hb4
   replace hlt:=hd_ hlt
   cases lt
   case true=>
    have hRe:R=s1.propose:=hRt.out
    replace hRe:=hd_ hRe
    go_wp2_with fail
    refine (Z43 (c+1) hN4.out hok1.out (Nat.zero_le _)).mono ?_
    rintro r w5 ⟨rfl,hst⟩
    rw [← hRe.out] at hst
    have hst2:=hst.after (.refl a) t4.out
    obtain⟨ownz,az,oz,hNz,ez,fz,tz⟩:=hst2
    have hbz:=fz.b
    replace hNz:=hd_ hNz
    replace ez:=hd_ ez
    replace fz:=hd_ fz
    replace tz:=hd_ tz
    clear hst
    go_wp2_with fail
    have hD:=Z3m hS hNz.out (hP.out _ _ tz.out)
    rw [hbz] at hD
    refine hD.mono ?_
    rintro r wz ⟨rfl,ownd,hNd,td,hgd⟩
    have hfin:Hid (Zfx own K w a wz R.1.settle R.2 az.ov):=hd_ ⟨ownd,_,_,hNd,fz.out.trans ⟨hbz.symm,rfl,rfl,rfl,rfl⟩,tz.out.trans td,hgd,ez.out,rfl⟩
    clear hNd td hgd hD
    go_wp2
    go_ret
    exact⟨_,rfl,hfin.out⟩
   go_wp2_with fail
   refine (Z41 own K a s1 [] w4 hN4.out ⟨hok1.out.m0,hok1.out.m1⟩).mono ?_
   rintro r w5 ⟨rfl,hb5⟩
   rw [hni]
   have hN5:=hd_ (hN4.out.grow hb5)
   have t5:=hd_ (t4.out.trans (Turn.grow (J:=JK K) hb5 hN4.out.wf))
   clear hb5
   cases ni
   case true=>
    have hRe:R=s1.ask:=hRt.out
    replace hRe:=hd_ hRe
    have hcall:=hd_ (HA.out hni own w5 hN5.out)
    replace hni:=hd_ hni
    go_wp2_with fail
    refine hcall.out.mono ?_
    rintro r w6 ⟨rfl,hst⟩
    rw [← hRe.out] at hst
    have hst2:=hst.after (.refl a) t5.out
    obtain⟨ownz,az,oz,hNz,ez,fz,tz⟩:=hst2
    have hbz:=fz.b
    replace hNz:=hd_ hNz
    replace ez:=hd_ ez
    replace fz:=hd_ fz
    replace tz:=hd_ tz
    clear hst
    go_wp2_with fail
    have hD:=Z3m hS hNz.out (hP.out _ _ tz.out)
    rw [hbz] at hD
    refine hD.mono ?_
    rintro r wz ⟨rfl,ownd,hNd,td,hgd⟩
    have hfin:Hid (Zfx own K w a wz R.1.settle R.2 az.ov):=hd_ ⟨ownd,_,_,hNd,fz.out.trans ⟨hbz.symm,rfl,rfl,rfl,rfl⟩,tz.out.trans td,hgd,ez.out,rfl⟩
    clear hNd td hgd hD
    go_wp2
    go_ret
    exact⟨_,rfl,hfin.out⟩
   replace hni:=hd_ hni
   have hRe:R=(s1,[]):=hRt.out
   have hst:Stp own K w5 a w5 R.1 (([]:List MsS).map MsS.m++R.2):=by rw [hRe];exact hN5.out.same
   have hst2:=hst.after (.refl a) t5.out
   obtain⟨ownz,az,oz,hNz,ez,fz,tz⟩:=hst2
   have hbz:=fz.b
   replace hNz:=hd_ hNz
   replace ez:=hd_ ez
   replace fz:=hd_ fz
   replace tz:=hd_ tz
   clear hst
   go_wp2_with fail
   have hD:=Z3m hS hNz.out (hP.out _ _ tz.out)
   rw [hbz] at hD
   refine hD.mono ?_
   rintro r wz ⟨rfl,ownd,hNd,td,hgd⟩
   have hfin:Hid (Zfx own K w a wz R.1.settle R.2 az.ov):=hd_ ⟨ownd,_,_,hNd,fz.out.trans ⟨hbz.symm,rfl,rfl,rfl,rfl⟩,tz.out.trans td,hgd,ez.out,rfl⟩
   clear hNd td hgd hD
   go_wp2
   go_ret
   exact⟨_,rfl,hfin.out⟩
end
end
section
open Go.RowKit
def dkO (w:World) (dk od:Nat) (cs:Array Value) (T:TypeId) (boot dv:Int):Prop:=
 w.heap[dk]?=some (.cells cs T (0,0))∧cs[od]?=some (.int .i64 boot)∧cs[od+1]?=some (.int .i64 dv)
theorem Zee (own:Nat→Nat) (K dk od:Nat) (cs:Array Value) (DT:TypeId) (id n boot dv:Int) (w:World) (hwf:∀ c,w.heap.size≤c→own c=0) (h16:16≤K) (hod:own dk=1) (hd:dkO w dk od cs DT boot dv)
  (h3:3≤n) (h7:n≤7) (hi1:1≤id) (hin:id≤n) (hb0:0≤boot) (hb1:boot<1099511627776) (hv0:0≤dv) (hv1:dv≤1099511627776) :
  Calls Tryz.prog 40 #[.int .i64 id, .int .i64 n, .pointer (some ⟨dk,od,none⟩)] w fun r w'=>∃ own' a,r=.returned (.tuple #[Z09 a.b, .int .i64 0])∧NdO own' K w' a (Nd.make id n (boot+1) dv) [] ∧
   a.dk=dk∧a.od=od∧a.cs=cs.setIfInBounds od (.int .i64 (boot+1))∧a.T=DT∧a.ov=.slice none 0 0∧Turn (JK K) own own' w w':=by
 obtain⟨hdk,hc0,hc1⟩:=hd
 have d0:w.cell? ⟨dk,od,none⟩=some (.int .i64 boot):=(Z00 hdk od).trans hc0
 have dz:w.frozen? ⟨dk,od,none⟩=false:=Z03 hdk od
 have ldk:=Z04 hdk
 have hos:od+1<cs.size:=(Array.getElem?_eq_some_iff.1 hc1).1
 obtain⟨w1,hw1⟩:∃ w1,w1=w.setCell ⟨dk,od,none⟩ (.int .i64 (boot+1)):=⟨_,rfl⟩
 have hdk1:w1.heap[dk]?=some (.cells (cs.setIfInBounds od (.int .i64 (boot+1))) DT (0,0)):=hw1 ▸ Z0d hdk
 have hd1:w1.cell? ⟨dk,od+1,none⟩=some (.int .i64 dv):=by
  rw [Z00 hdk1,Array.getElem?_setIfInBounds_ne (by omega)];exact hc1
 have hC1:Chg (fun c=>own c=1) w w1:=hw1 ▸ Z06 (Chg.refl _ _) hod
 have hS:=Zfp dk od boot w d0 dz hb0 hb1
 rw [← hw1] at hS
 have hs1:w1.heap.size=w.heap.size:=by rw [hw1];exact World.size_setCell ..
 have hdec:Z1y 1 n=1:=by unfold Z1y;rw [if_neg (by omega)];simp
 replace hS:=hd_ hS
 replace hC1:=hd_ hC1
 replace hdk1:=hd_ hdk1
 replace hd1:=hd_ hd1
 replace hw1:=hd_ hw1
 replace hdk:=hd_ hdk
 replace hwf:=hd_ hwf
 replace hc1:=hd_ hc1
 clear hc0 d0 dz
 have g1:¬ id<1:=by omega
 have g2:¬ id > n:=by omega
 have gb:((boot+1:Int)==0)=false:=by simp;omega
 go_enter Tryz.func40,Tryz.ntmps40
 go_wp2_with fail
 refine (Z0p 1 n _ (by omega) (by omega)).mono ?_
 rintro r wx ⟨rfl,rfl⟩
 rw [hdec]
 go_wp2_with fail
 refine hS.out.mono ?_
 rintro r wx ⟨rfl,rfl⟩
 clear hS
 go_wp2_with fail
 refine (gNew_any id wx hi1 (by omega)).mono ?_
 rintro r w2 ⟨rfl,hg2,hb2⟩
 have hs2:=hb2.size
 have lg2:=Z04 hg2.1
 replace hg2:=hd_ hg2
 replace hb2:=hd_ hb2
 go_wp2_with fail
 refine (Z1e (.slice none 0 0) [] w2 ⟨none,0,rfl,Nat.le_refl _,Nat.zero_le _,fun h=>by simp at h⟩).mono ?_
 rintro r w3 ⟨lb,rfl,hlb,hl3,hb3⟩
 have hs3:=hb3.size
 replace hl3:=hd_ (show lgO w3 (News w2 w3) lb [] from hl3)
 replace hb3:=hd_ hb3
 go_wp2_with fail
 refine (Zif id (boot+1) w3 hi1 (by omega) (by omega) (by omega)).mono ?_
 rintro r w4 ⟨rfl,hp4,hb4⟩
 have hs4:=hb4.size
 have lp4:=hp4.lt
 replace hp4:=hd_ hp4
 replace hb4:=hd_ hb4
 go_wp2_with fail
 refine (Zig w4).mono ?_
 rintro r w5 ⟨rfl,hr5,hb5⟩
 have hs5:=hb5.size
 have lr5:w4.heap.size<w5.heap.size:=by obtain⟨_,v,h,_⟩:=hr5;exact Z04 h
 replace hr5:=hd_ hr5
 replace hb5:=hd_ hb5
 go_wp2_with fail
 refine (tNew_any w5).mono ?_
 rintro r w6 ⟨tq,tb,rfl,ht6,htq,htb,hb6⟩
 have hs6:=hb6.size
 have ltq:=ht6.ltq
 have ltb:=ht6.ltb
 replace ht6:=hd_ ht6
 replace hb6:=hd_ hb6
 obtain⟨xb,hxb⟩:∃ xb,xb=w6.heap.size:=⟨_,rfl⟩
 have hs1':wx.heap.size=w.heap.size:=hs1
 obtain⟨W7,hW7⟩:∃ W7,W7=w6.alloc (.cells #[.int .i64 id, .int .i64 n, .pointer (some ⟨dk,od,none⟩), .int .i64 (boot+1), .int .i64 0, .int .i64 0,Z09 w.heap.size, .pointer none, .bool (boot+1==1),Z09 lb, .int .i64 0, .int .i64 0, .int .i64 0,Z09 w3.heap.size,Z09 w4.heap.size,Z09 tq, .pointer none, .pointer none, .int .i64 0, .bool false, .bool false, .pointer none, .int .i64 0, .int .i64 0, .int .i64 0, .int .i64 0, .int .i64 0, .int .i64 0, .int .i64 0, .int .i64 0, .int .i64 0, .int .i64 0, .slice none 0 0, .slice none 0 0] 115):=⟨_,rfl⟩
 have hb7:Below w6.heap.size w6 W7:=hW7 ▸ (Below.refl _ _).alloc (Nat.le_refl _) _
 have hx7:W7.heap[xb]?=some (.cells #[.int .i64 id, .int .i64 n, .pointer (some ⟨dk,od,none⟩), .int .i64 (boot+1), .int .i64 0, .int .i64 0,Z09 w.heap.size, .pointer none, .bool (boot+1==1),Z09 lb, .int .i64 0, .int .i64 0, .int .i64 0,Z09 w3.heap.size,Z09 w4.heap.size,Z09 tq, .pointer none, .pointer none, .int .i64 0, .bool false, .bool false, .pointer none, .int .i64 0, .int .i64 0, .int .i64 0, .int .i64 0, .int .i64 0, .int .i64 0, .int .i64 0, .int .i64 0, .int .i64 0, .int .i64 0, .slice none 0 0, .slice none 0 0] 115 (0,0)):=hW7 ▸ hxb ▸ Z0a _ _
 have hs7:W7.heap.size=w6.heap.size+1:=by rw [hW7];exact World.size_alloc ..
 have hB7:Below wx.heap.size wx W7:=hb2.out.trans ((hb3.out.mono hs2).trans ((hb4.out.mono (by omega)).trans ((hb5.out.mono (by omega)).trans ((hb6.out.mono (by omega)).trans (hb7.mono (by omega))))))
 have hd7:W7.cell? ⟨dk,od+1,none⟩=some (.int .i64 dv):=by
  rw [hB7.cell (Z0f hd1.out)];exact hd1.out
 replace hd7:=hd_ hd7
 have hs67:w6.heap.size≤W7.heap.size:=by omega
 replace hs7:=hd_ hs7
 replace hb7:=hd_ hb7
 replace hx7:=hd_ hx7
 replace hB7:=hd_ hB7
 go_upto_region 7 with (fail)
 rw [← hW7,← hxb]
 replace hW7:=hd_ hW7
 replace hxb:=hd_ hxb
 go_wp2_with fail
 refine (Z1m dk od dv _ hd7.out).mono ?_
 rintro r wy ⟨rfl,rfl⟩
 go_wp2_with fail
 refine (jNew_ok id n (boot+1) dv W7 h3 h7 hi1 hin (by omega) (by omega) hv0 hv1).mono ?_
 rintro r w8 ⟨rfl,hj8,hb8⟩
 have hs8:=hb8.size
 have lj8:W7.heap.size<w8.heap.size:=Z04 hj8
 have hx8:=Z02 hx7.out hb8
 have q7:w8.cell? ⟨xb,7,none⟩=some (.pointer none):=Z00 hx8 7
 have z7:=Z03 hx8 7
 have lx8:=Z04 hx8
 obtain⟨W9,hW9⟩:∃ W9,W9=w8.setCell ⟨xb,7,none⟩ (Z09 W7.heap.size):=⟨_,rfl⟩
 have hx9:=hW9 ▸ Z0d (o:=7) (u:=Z09 W7.heap.size) hx8
 have hs9:W9.heap.size=w8.heap.size:=by rw [hW9];exact World.size_setCell ..
 have hC9:Chg (fun k=>k=xb) w8 W9:=hW9 ▸ Z06 (Chg.refl _ _) rfl
 replace hx9:=hd_ hx9
 have hs89:w8.heap.size≤W9.heap.size:=by omega
 replace hs9:=hd_ hs9
 replace hC9:=hd_ hC9
 replace hj8:=hd_ hj8
 replace hb8:=hd_ hb8
 go_upto_region 8 with (fail)
 rw [← hW9]
 replace hW9:=hd_ hW9
 clear q7 z7 hx8
 have hm0 : -9223372036854775808≤(boot+1)*1048576:=by omega
 have hm1:(boot+1)*1048576≤9223372036854775807:=by omega
 go_wp2_with fail
 refine (Zih ((boot+1)*1048576) _).mono ?_
 rintro r w10 ⟨rfl,hf10,hb10⟩
 have hs10:=hb10.size
 have lf10:W9.heap.size<w10.heap.size:=by obtain⟨_,v,h,_⟩:=hf10;exact Z04 h
 have hx10:=Z02 hx9.out hb10
 have q16:w10.cell? ⟨xb,16,none⟩=some (.pointer none):=Z00 hx10 16
 have z16:=Z03 hx10 16
 have lx10:=Z04 hx10
 obtain⟨W11,hW11⟩:∃ W11,W11=w10.setCell ⟨xb,16,none⟩ (Z09 W9.heap.size):=⟨_,rfl⟩
 have hx11:=hW11 ▸ Z0d (o:=16) (u:=Z09 W9.heap.size) hx10
 have hs11:W11.heap.size=w10.heap.size:=by rw [hW11];exact World.size_setCell ..
 have hC11:Chg (fun k=>k=xb) w10 W11:=hW11 ▸ Z06 (Chg.refl _ _) rfl
 replace hx11:=hd_ hx11
 have hs1011:w10.heap.size≤W11.heap.size:=by omega
 replace hs11:=hd_ hs11
 replace hC11:=hd_ hC11
 replace hf10:=hd_ hf10
 replace hb10:=hd_ hb10
 go_upto_region 9 with (fail)
 rw [← hW11]
 replace hW11:=hd_ hW11
 clear q16 z16 hx10
 go_wp2
 go_ret2
 have hxv:=hxb.out
 have hs7:=hs7.out
 have hs9:=hs9.out
 have hs11:=hs11.out
 have c9:Chg (fun k=>k=xb) W9 W11:=(Chg.of_below hb10.out).more hC11.out fun i e=>.inl e
 have c8:Chg (fun k=>k=xb) w8 W11:=hC9.out.more c9 fun i e=>.inl e
 have c7:Chg (fun k=>k=xb) W7 W11:=(Chg.of_below hb8.out).more c8 fun i e=>.inl e
 have c6:Chg (fun k=>k=xb) w6 W11:=(Chg.of_below hb7.out).more c7 fun i e=>.inl e
 have c5:Chg (fun k=>k=xb) w5 W11:=(Chg.of_below hb6.out).more c6 fun i e=>.inl e
 have c4:Chg (fun k=>k=xb) w4 W11:=(Chg.of_below hb5.out).more c5 fun i e=>.inl e
 have c3:Chg (fun k=>k=xb) w3 W11:=(Chg.of_below hb4.out).more c4 fun i e=>.inl e
 have c2:Chg (fun k=>k=xb) w2 W11:=(Chg.of_below hb3.out).more c3 fun i e=>.inl e
 have c1:Chg (fun k=>k=xb) wx W11:=(Chg.of_below hb2.out).more c2 fun i e=>.inl e
 have cW:Chg (fun c=>JK K (own c)) w W11:=(hC1.out.mono fun k _ e=>.inl e).more c1 fun i e=>.inr (by have e:i=xb:=e;omega)
 have t:=Turn.cls (J:=JK K) (own:=own) (fun c=>if c<w2.heap.size then K+1 else if c<w3.heap.size then K+3 else if c<w4.heap.size then K+4 else if c<w5.heap.size then K+5 else if c<w6.heap.size then K+6 else if c<W7.heap.size then K else if c<W9.heap.size then K+2 else K+7) cW
 have ov:∀ c,w.heap.size≤c→c<W11.heap.size→clsO own w.heap.size W11.heap.size (fun c=>if c<w2.heap.size then K+1 else if c<w3.heap.size then K+3 else if c<w4.heap.size then K+4 else if c<w5.heap.size then K+5 else if c<w6.heap.size then K+6 else if c<W7.heap.size then K else if c<W9.heap.size then K+2 else K+7) c=if c<w2.heap.size then K+1 else if c<w3.heap.size then K+3 else if c<w4.heap.size then K+4 else if c<w5.heap.size then K+5 else if c<w6.heap.size then K+6 else if c<W7.heap.size then K else if c<W9.heap.size then K+2 else K+7:=fun c h1 h2=>by
  unfold clsO
  rw [if_neg (by omega),if_pos h2]
 have od1:=t.old dk ldk
 generalize clsO own w.heap.size W11.heap.size (fun c=>if c<w2.heap.size then K+1 else if c<w3.heap.size then K+3 else if c<w4.heap.size then K+4 else if c<w5.heap.size then K+5 else if c<w6.heap.size then K+6 else if c<W7.heap.size then K else if c<W9.heap.size then K+2 else K+7)=own' at t ov od1
 have hlg:lgO W11 (Is own' (K+3)) lb []:=(hl3.out.chg c3 fun k e e2=>by have e2:k=xb:=e2;have:=e.2;omega).mono fun k e=>by
  show own' k=K+3
  have h1:=e.1;have h2:=e.2
  rw [ov k (by omega) (by omega),if_neg (by omega),if_pos h2]
 have hpn:pnO W11 (Is own' (K+4)) w3.heap.size id (boot+1) 0 []:=(hp4.out.chg c4 fun k e e2=>by omega).mono fun k e=>by
  show own' k=K+4
  rw [ov k (by omega) (by omega),if_neg (by omega),if_neg (by omega),if_pos (by omega)]
 have hrq:rqO W11 (Is own' (K+5)) w4.heap.size []:=(hr5.out.chg c5 fun k e e2=>by omega).mono fun k e=>by
  show own' k=K+5
  rw [ov k (by omega) (by omega),if_neg (by omega),if_neg (by omega),if_neg (by omega),if_pos (by omega)]
 have hpf:pfO W11 (Is own' (K+7)) W9.heap.size (.fresh ((boot+1)*1048576)):=(hf10.out.chg hC11.out fun k e e2=>by omega).mono fun k e=>by
  show own' k=K+7
  rw [ov k (by omega) (by omega),if_neg (by omega),if_neg (by omega),if_neg (by omega),if_neg (by omega),if_neg (by omega),if_neg (by omega),if_neg (by omega)]
 have htt:own' tq=K+6∧own' tb=K+6∧TbO W11 tq tb []:=by
  refine⟨?_,?_,ht6.out.chg c6 (by omega) (by omega)⟩
  ·rw [ov tq (by omega) (by omega),if_neg (by omega),if_neg (by omega),if_neg (by omega),if_neg (by omega),if_pos (by omega)]
  ·rw [ov tb (by omega) (by omega),if_neg (by omega),if_neg (by omega),if_neg (by omega),if_neg (by omega),if_pos (by omega)]
 have hgm:own' w.heap.size=K+1∧gmO W11 w.heap.size id Z3c:=by
  refine⟨?_,?_⟩
  ·rw [ov _ (by omega) (by omega),if_pos (by omega)]
  ·have:=hg2.out.chg c2 (by omega)
   rw [hs1'] at this
   exact this
 have hjn:own' W7.heap.size=K+2∧jnO W11 W7.heap.size id n (boot+1) dv mg0 false:=by
  refine⟨?_,Z0g hj8.out c8 (by omega)⟩
  rw [ov _ (by omega) (by omega),if_neg (by omega),if_neg (by omega),if_neg (by omega),if_neg (by omega),if_neg (by omega),if_neg (by omega),if_pos (by omega)]
 have hdk11:W11.heap[dk]?=some (.cells (cs.setIfInBounds od (.int .i64 (boot+1))) DT (0,0)):=Z0g hdk1.out c1 (by omega)
 have hcs:(cs.setIfInBounds od (Value.int .i64 (boot+1))).setIfInBounds (od+1) (.int .i64 dv)=cs.setIfInBounds od (.int .i64 (boot+1)):=by
  apply Array.ext_getElem?
  intro i
  rw [Array.getElem?_setIfInBounds]
  by_cases hi:od+1=i
  ·subst hi
   rw [if_pos rfl,Array.getElem?_setIfInBounds_ne (by omega),hc1.out,if_pos (by rw [Array.size_setIfInBounds];exact hos)]
  ·rw [if_neg hi]
 have oxb:own' xb=K:=by
  rw [ov _ (by omega) (by omega),if_neg (by omega),if_neg (by omega),if_neg (by omega),if_neg (by omega),if_neg (by omega),if_pos (by omega)]
 refine⟨own',⟨xb,dk,od,cs.setIfInBounds od (.int .i64 (boot+1)),DT,w.heap.size,W7.heap.size,lb,w3.heap.size,w4.heap.size,tq,tb,W9.heap.size,none,none, .slice none 0 0, .slice none 0 0⟩,rfl,⟨hx11.out,rfl,?_⟩,rfl,rfl,rfl,rfl,rfl,t⟩
 exact⟨t.new,h16,oxb,od1.trans hod,by rw [Array.size_setIfInBounds];exact hos,by rw [hdk11];show _=some (Obj.cells ((cs.setIfInBounds od (Value.int .i64 (boot+1))).setIfInBounds (od+1) (.int .i64 dv)) DT (0,0));rw [hcs],hgm,fun _ _=>hjn,hlg,hpn,hrq,htt,hpf,trivial,trivial,⟨Z12 _ _ _ _,fun k hk=>by cases hk⟩,⟨Z12 _ _ _ _,fun k hk=>(by cases hk),fun x hx=>(by cases hx)⟩⟩
end
end Go.Proofs.YtbonjbokofkafaaGreat
