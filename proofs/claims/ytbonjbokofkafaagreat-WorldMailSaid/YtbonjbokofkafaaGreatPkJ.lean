/- Lemmas of the proof: PkJ. -/
import Derived.Test.YtbonjbokofkafaaGreatPkI
import Derived.Test.YtbonjbokofkafaaGreatPkF
import Derived.Test.YtbonjbokofkafaaGreatPkC
import Derived.Deep.DeepCutAuto
import Derived.Test.YtbonjbokofkafaaGreatPkG
import Derived.Test.YtbonjbokofkafaaGreatPkD
import Derived.Test.YtbonjbokofkafaaGreatPkB
namespace Go.Proofs.YtbonjbokofkafaaGreat
set_option linter.unusedVariables false
set_option maxRecDepth 100000
set_option maxHeartbeats 64000000
section
open Go.RowKit
theorem lgO.block {w:World} {F:Nat→Prop} {b:Nat} {l:List Ent} (h:lgO w F b l):F b:=h.1
section
variable {own:Nat→Nat} {K:Nat} {w:World} {a:NdAt} {s:Nd} {out:List MsS}
theorem NdO.newL (h:NdO own K w a s out) {w1:World} {b:Nat} {L:List Ent} (hb:Below w.heap.size w w1) (hl:lgO w1 (fun k=>w.heap.size≤k∧k<w1.heap.size) b L) :
  ∃ own',NdO own' K (w1.setCell ⟨a.b,9,none⟩ (Z09 b)) { a with l:=b } { s with L:=L } out∧Turn (JK K) own own' w (w1.setCell ⟨a.b,9,none⟩ (Z09 b)):=by
 have hk:=h.r.k16
 have t:=Turn.extJ (own:=own) (J:=fun o=>o=K) (K+3) (w:=w) (w':=w1.setCell ⟨a.b,9,none⟩ (Z09 b)) (Z06 (.of_below hb) h.r.ob)
 have hlt:=h.lt
 have hs:(w1.setCell ⟨a.b,9,none⟩ (Z09 b)).heap.size=w1.heap.size:=World.size_setCell ..
 rw [hs] at t
 have a0:lgO (w1.setCell ⟨a.b,9,none⟩ (Z09 b)) (fun k=>w.heap.size≤k∧k<w1.heap.size) b L:=hl.chg (G:=fun k=>k=a.b) (Z06 (Chg.refl _ _) rfl) (fun k e=>by omega)
 refine⟨_,⟨?_,h.ears,h.r.putL (t.mono fun o e=>.inl e) (a0.mono fun k e=>Z20 (by omega) e.2)⟩,t.mono jkK⟩
 rw [Z0d (o:=9) (u:=Z09 b) (Z02 h.blk hb)]
 unfold ndC
 rw [List.setIfInBounds_toArray];rfl
theorem NdO.newQ (h:NdO own K w a s out) {w1:World} (q:Qd) (hb:Below w.heap.size w w1) (hq:qO w1 w.heap.size q.n q.mem q.me q.H q.P q.last) :
  ∃ own',NdO own' K (w1.setCell ⟨a.b,21,none⟩ (Z09 w.heap.size)) { a with qb:=some w.heap.size } { s with q:=some q } out∧Turn (JK K) own own' w (w1.setCell ⟨a.b,21,none⟩ (Z09 w.heap.size)):=by
 have hk:=h.r.k16
 have t:=Turn.extJ (own:=own) (J:=fun o=>o=K) (K+10) (w:=w) (w':=w1.setCell ⟨a.b,21,none⟩ (Z09 w.heap.size)) (Z06 (.of_below hb) h.r.ob)
 have hlt:=h.lt
 have hs:(w1.setCell ⟨a.b,21,none⟩ (Z09 w.heap.size)).heap.size=w1.heap.size:=World.size_setCell ..
 rw [hs] at t
 have a0:qO (w1.setCell ⟨a.b,21,none⟩ (Z09 w.heap.size)) w.heap.size q.n q.mem q.me q.H q.P q.last:=⟨Z0u hq.1 (by omega),hq.2⟩
 refine⟨_,⟨?_,h.ears,h.r.putQ (b:=w.heap.size) (t.mono fun o e=>.inl e) ⟨Z20 (by omega) (Z04 hq.1),a0⟩⟩,t.mono jkK⟩
 rw [Z0d (o:=21) (u:=Z09 w.heap.size) (Z02 h.blk hb)]
 unfold ndC
 rw [List.setIfInBounds_toArray];rfl
theorem NdO.noQ (h:NdO own K w a s out) :
  NdO own K (w.setCell ⟨a.b,21,none⟩ (.pointer none)) { a with qb:=none } { s with q:=none } out∧Turn (fun i=>i=K) own own w (w.setCell ⟨a.b,21,none⟩ (.pointer none)):=
 h.set 21 _ (by unfold ndC;rw [List.setIfInBounds_toArray];rfl) rfl h.ears fun r=>
  ⟨r.wf,r.k16,r.ob,r.odk,r.dsz,r.dsk,r.gm,r.jn,r.lg,r.pn,r.rq,r.tt,r.pf,r.vt,(by unfold qmM;trivial),r.ask,r.out⟩
theorem NdO.qsome (h:NdO own K w a s out) {q:Qd} (hq:s.q=some q):∃ qb,a.qb=some qb∧own qb=K+10∧qO w qb q.n q.mem q.me q.H q.P q.last:=by
 have:=h.r.qm
 rw [hq] at this
 cases hb:a.qb with
 | none=>rw [hb] at this;exact this.elim
 | some qb=>rw [hb] at this;exact⟨qb,rfl,this⟩
theorem NdO.qnone (h:NdO own K w a s out) (hq:s.q=none):a.qb=none:=by
 have:=h.r.qm
 rw [hq] at this
 cases hb:a.qb with
 | none=>rfl
 | some qb=>rw [hb] at this;exact this.elim
theorem NdO.turnQ (h:NdO own K w a s out) {w1:World} {qb:Nat} (q:Qd) (ha:a.qb=some qb) (ho:own qb=K+10) (hc:Chg (fun k=>k=qb) w w1) (hq:qO w1 qb q.n q.mem q.me q.H q.P q.last) :
  ∃ own',NdO own' K w1 a { s with q:=some q } out∧Turn (JK K) own own' w w1:=by
 have hk:=h.r.k16
 have t:Turn (fun o=>o=K+10) own own w w1:=.same (hc.mono fun k _ e=>by rw [e];exact ho) h.wf
 have e:=h.r.putQ (b:=qb) (q:=q) (t.mono (J':=fun o=>o=K∨o=K+10) fun o e=>.inr e) ⟨ho,hq⟩
 have e2:({ a with qb:=some qb }:NdAt)=a:=by rw [← ha]
 rw [e2] at e
 refine⟨own,⟨?_,h.ears,e⟩,t.mono fun o e=>by unfold JK;omega⟩
 have:=t.pub h.blk (by rw [h.r.ob];omega)
 rw [this]
 have:ndC a s=ndC a { s with q:=some q }:=rfl
 rw [← this]
theorem ndQAck (h:NdO own K w a s out) {q:Qd} (hq:s.q=some q) {qb:Nat} (ha:a.qb=some qb) (hm:0≤q.mem∧q.mem<128) (id hv pr:Int) :
  Calls Tryz.prog 177 #[Z09 qb, .int .i64 id, .int .i64 hv, .int .i64 pr] w fun r w'=>r=.returned (.bool (q.okAck id hv))∧∃ own',NdO own' K w' a { s with q:=some (q.ack id hv pr) } out∧Turn (JK K) own own' w w':=by
 obtain⟨qb',e,ho,hQ⟩:=h.qsome hq
 rw [ha] at e
 injection e with e
 subst e
 cases hok:q.okAck id hv
 ·have b0:=hok
  unfold Qd.okAck at b0
  refine (Zi1 qb q.n q.mem q.me q.H q.P q.last id hv pr w hQ hm b0).mono ?_
  rintro r w' ⟨rfl,rfl⟩
  have e:q.ack id hv pr=q:=by unfold Qd.ack;rw [hok];rfl
  rw [e,show ({ s with q:=some q }:Nd)=s by rw [← hq]]
  exact⟨rfl,own,h, .grow (Below.refl _ _) h.wf⟩
 ·have a0:=hok
  unfold Qd.okAck at a0
  simp only [Bool.and_eq_true,decide_eq_true_eq] at a0
  obtain⟨⟨h1,h2⟩,h3⟩:=a0
  have hb:isB id=true:=by unfold Z18 at h1;simp only [Bool.and_eq_true] at h1;exact h1.1
  unfold isB at hb
  simp only [Bool.and_eq_true,decide_eq_true_eq] at hb
  obtain⟨n,rfl⟩:=Int.eq_ofNat_of_zero_le (by omega:0≤id)
  refine (Ze2 qb q.n q.mem q.me q.H q.P q.last n hv pr w hQ hm h1 (by omega) (by omega) h2 h3).mono ?_
  rintro r w' ⟨rfl,c0,hc⟩
  have e:q.ack (n:Int) hv pr={ q with H:=q.H.set n (max (q.H.getD n 0) hv),P:=ackP q.P n pr q.last }:=by
   unfold Qd.ack
   rw [hok]
   simp only [if_true,Int.toNat_natCast]
   rfl
  rw [e]
  exact⟨rfl,h.turnQ _ ha ho hc c0⟩
end
end
section
open Go.RowKit
theorem Zec:∀ (l1 l2:List VtS) (b1 b2:VtS),l1.map VtS.v=l2.map VtS.v→b1.v=b2.v→(Z1k b1 l1).v=(Z1k b2 l2).v
 | [],[],b1,b2,_,hb=>hb
 | [],y :: l2,_,_,h,_=>by cases h
 | x :: l1,[],_,_,h,_=>by cases h
 | x :: l1,y :: l2,b1,b2,h,hb=>by
   simp only [List.map_cons,List.cons.injEq] at h
   unfold Z1k
   rw [List.foldl_cons,List.foldl_cons]
   refine Zec l1 l2 _ _ h.2 ?_
   rw [h.1,hb]
   split
   ·exact h.1
   ·exact hb
theorem comTo_v (l1 l2:List VtS) (h:l1.map VtS.v=l2.map VtS.v):Z52 l1=Z52 l2:=by
 unfold Z52
 have e:∀ (l:List VtS) (c:Int),l.foldl (fun c x=>max c x.v.com) c=(l.map VtS.v).foldl (fun c x=>max c x.com) c:=fun l c=>by rw [List.foldl_map]
 rw [e,e,h]
theorem mkV_v (l:List Vt):(mkV l).map VtS.v=l:=by unfold mkV;rw [List.map_map];exact List.map_id l
theorem bestV_is (ls:List VtS) (y:VtS) (hl:0<ls.length) (hy:y=ls[0]):Z57 (ls.map VtS.v)={ (Z1k y ls).v with com:=min (Z52 ls) (((Z1k y ls).v.lg.length:Nat):Int) }:=by
 cases ls with
 | nil=>simp at hl
 | cons x l=>
   have a0:y=x:=hy
   subst a0
   have h1:(Z1k ⟨y.v, .slice none 0 0⟩ (mkV ((y :: l).map VtS.v))).v=(Z1k y (y :: l)).v:=Zec _ _ _ _ (mkV_v _) rfl
   have h2:Z52 (mkV ((y :: l).map VtS.v))=Z52 (y :: l):=comTo_v _ _ (mkV_v _)
   unfold Z57
   rw [List.map_cons] at h1 h2 ⊢
   simp only [h1,h2]
def Nd.ins1 (s:Nd) (L:List Ent) (nc u T:Int):Nd:={ s with L:=L,com:=nc,last:=u,mem:=T,mine:=true }
def Nd.ins2 (s:Nd) (q:Option Qd):Nd:={ s with q:=q }
def Nd.ins3 (s:Nd) (n:Int):Nd:={ s with start:=n,acked:=0,asked:=[],v:=none }
def Nd.insE (s:Nd) (k:Nat):Nd:={ s with ears:=List.replicate k s.clock++s.ears.drop k }
theorem Ziw (s:Nd) (h:s.ears.length=8) (k:Nat) (hk:k<8):(List.replicate k s.clock++s.ears.drop k).set k s.clock=List.replicate (k+1) s.clock++s.ears.drop (k+1):=by
 rw [List.set_append_right _ _ (by simp),List.length_replicate,Nat.sub_self,List.drop_eq_getElem_cons (by omega),List.set_cons_zero,List.replicate_succ',List.append_assoc]
 rfl
def NdAt.wL (a:NdAt) (l:Nat):NdAt:={ a with l:=l }
def NdAt.w0 (a:NdAt):NdAt:={ a with av:=.slice none 0 0,v:=none }
def NdAt.wQ (a:NdAt) (q:Option Nat):NdAt:={ a with qb:=q }
section
variable {own:Nat→Nat} {K:Nat} {w:World} {a:NdAt} {s:Nd} {out:List MsS}
theorem NdO.c17 (h:NdO own K w a s out) {vb:Nat} (ha:a.v=some vb):w.cell? ⟨a.b,17,none⟩=some (Z09 vb):=by
 have:=h.c 17
 rw [show (ndC a s)[17]?=some (Z3f a.v) from rfl,ha] at this
 exact this
theorem NdO.c21 (h:NdO own K w a s out) {qb:Nat} (ha:a.qb=some qb):w.cell? ⟨a.b,21,none⟩=some (Z09 qb):=by
 have:=h.c 21
 rw [show (ndC a s)[21]?=some (Z3f a.qb) from rfl,ha] at this
 exact this
theorem Zaq (c:Nat) (h:NdO own K w a s out) (hok:Ok c s) (hl:out.length≤1000000) (u:Int) (l:List Vt) (hv:s.v=some (u,l)) (hm:Z2x (Z0v (mkV l)) s.n=true) :
  Calls Tryz.prog 124 #[Z09 a.b] w fun r w'=>r=.returned (.tuple #[])∧Stp own K w a w' (s.install u l).1 (out.map MsS.m++(s.install u l).2):=by
 have o5:=h.r.k16
 obtain⟨vb,j3⟩:=h.vsome hv
 obtain⟨ls,y1,q4⟩:=h.votes hv j3
 have z0:=hok.vt u l hv
 have n1:Z2x (Z0v ls) s.n=true:=by rw [← Z8g,← y1];exact hm
 have o3:0<ls.length:=by
  cases ls with
  | nil=>
    exfalso
    rw [show Z0v []=0 from rfl] at n1
    unfold Z2x at n1
    simp only [Bool.and_eq_true,decide_eq_true_eq] at n1
    have h3:=hok.n3
    have h0:lenT ((0:Nat):Int).toNat=0:=by decide
    rw [h0] at n1
    omega
  | cons x ls=>simp
 have d1:∀ x ∈ ls,x.v.lg.length≤60:=fun x hx=>by
  have:=(z0.2.2.2 x.v (by rw [y1];exact List.mem_map_of_mem hx)).2.2.2.2.1
  have:=Z2d x.v.lg
  omega
 have f5:∀ x ∈ ls,0≤x.v.com∧x.v.com≤60:=fun x hx=>by
  have h1:=z0.2.2.2 x.v (by rw [y1];exact List.mem_map_of_mem hx)
  have:=d1 x hx
  omega
 obtain⟨y0,v3⟩:∃ y0,y0=ls[0]:=⟨_,rfl⟩
 obtain⟨y,hy⟩:∃ y,Z1k y0 ls=y:=⟨_,rfl⟩
 obtain⟨cm,m3⟩:∃ cm,Z52 ls=cm:=⟨_,rfl⟩
 have e0:=bestV_is ls y0 o3 v3
 rw [hy,m3,← y1] at e0
 have r4:y.v.lg.length≤60:=by
  rw [← hy]
  exact Z8c y0 ls (fun x=>x.v.lg.length≤60) (v3 ▸ d1 _ (List.getElem_mem o3)) d1
 obtain⟨bc,g4⟩:∃ bc,min cm ((y.v.lg.length:Nat):Int)=bc:=⟨_,rfl⟩
 rw [g4] at e0
 have s1:=hd_ (fun w1 (hb:Below w.heap.size w w1)=>Zhp vb u s.n ls y0 y cm w1 (q4.grow hb).rd n1 o3 d1 v3 hy m3)
 rw [g4] at s1
 obtain⟨T,hT⟩:∃ T,Z0v ls=T:=⟨_,rfl⟩
 have r1:Z0v (mkV l)=T:=by rw [y1,Z8g,hT]
 have i2:T<128:=by rw [← hT];exact Z31 _
 have b6:0≤cm∧cm≤60:=by
  rw [← m3]
  have:∀ (l:List VtS) (c:Int),(0≤c∧c≤60)→(∀ x ∈ l,0≤x.v.com∧x.v.com≤60)→0≤l.foldl (fun c x=>max c x.v.com) c∧l.foldl (fun c x=>max c x.v.com) c≤60:=by
   intro l
   induction l with
   | nil=>exact fun c hc _=>hc
   | cons x l ih=>
     intro c hc hx
     have h1:=hx x (List.mem_cons_self ..)
     have h2:0≤max c x.v.com∧max c x.v.com≤60:=by omega
     exact ih (max c x.v.com) h2 fun z hz=>hx z (List.mem_cons_of_mem _ hz)
  exact this ls 0 (by omega) f5
 have n5:=h.c17 j3
 have hla:=h.lt
 have a6:0≤bc∧bc≤60:=by omega
 obtain⟨yl,c3⟩:∃ yl,y.v.lg=yl:=⟨_,rfl⟩
 rw [c3] at r4
 have t5:=Z2d yl
 obtain⟨L,hL⟩:∃ L,Z2y yl=L:=⟨_,rfl⟩
 rw [hL] at t5
 replace s1:=hd_ (fun w1 (hb:Below w.heap.size w w1)=>s1.out w1 hb)
 rw [c3] at s1
 replace hL:=hd_ hL;replace c3:=hd_ c3;replace e0:=hd_ e0;replace z0:=hd_ z0;replace hok:=hd_ hok
 have j6:=hd_ hv
 have l2:=hd_ j3
 replace q4:=hd_ q4;replace h:=hd_ h;replace hT:=hd_ hT;replace r1:=hd_ r1;replace n1:=hd_ n1;replace hm:=hd_ hm
 obtain⟨yf,l5⟩:∃ yf,y.v.frm=yf:=⟨_,rfl⟩
 obtain⟨yk,m5⟩:∃ yk,y.v.last=yk:=⟨_,rfl⟩
 rw [l5,m5] at s1
 clear hv j3 hy v3 m3 g4 l5 m5 d1 f5 o3 y1
 go_enter Tryz.func124,Tryz.ntmps124
 go_wp2_with fail
 refine (s1.out _ (Below.refl _ _)).mono ?_
 rintro r w1 ⟨v1,rfl,s2,x1⟩
 have z3:=hd_ (h.out.grow x1)
 have t1:=hd_ (Turn.grow (J:=JK K) (own:=own) x1 h.out.wf)
 obtain⟨sa,sc,rfl⟩:=s2.rd.len
 replace s2:=hd_ s2.rd
 obtain⟨xb,t3⟩:∃ xb,xb=w1.heap.size:=⟨_,rfl⟩
 obtain⟨W2,f3⟩:∃ W2,W2=w1.alloc (.cells #[.int .i64 yf, .int .i64 yk, .slice sa yl.length sc, .int .i64 bc] 184):=⟨_,rfl⟩
 have d3:Below w1.heap.size w1 W2:=f3 ▸ (Below.refl _ _).alloc (Nat.le_refl _) _
 have a2:W2.heap[xb]?=some (.cells #[.int .i64 yf, .int .i64 yk, .slice sa yl.length sc, .int .i64 bc] 184 (0,0)):=f3 ▸ t3 ▸ Z0a _ _
 have b4:=hd_ (z3.out.grow d3)
 have t2:=hd_ (t1.out.trans (Turn.grow (J:=JK K) d3 z3.out.wf))
 have g6:=hd_ (s2.out.grow d3)
 have k5:own xb=0:=h.out.wf xb (by have:=x1.size;omega)
 go_upto_region 1 with (fail)
 rw [← f3,← t3]
 have x2:=Z00 a2 2
 have x3:=Z00 a2 3
 simp only [List.getElem?_toArray,List.getElem?_cons_zero,List.getElem?_cons_succ] at x2 x3
 have lx:=Z04 a2
 have o6:=b4.out.lt
 replace a2:=hd_ a2;clear f3 d3 x1 z3 t1 s2 n5;replace t3:=hd_ t3;go_wp2_with fail
 refine (Z1e _ yl _ g6.out).mono ?_
 rintro r w3 ⟨lb,rfl,hlb,l1,k3⟩
 rw [hL.out] at l1
 have e3:=b4.out.grow k3
 have q9:w3.cell? ⟨a.b,9,none⟩=some (Z09 a.l):=e3.c 9
 have z9:=e3.free 9
 have p6:=e3.lt
 obtain⟨own4,b2,t4⟩:=b4.out.newL k3 l1
 have h5:=hd_ (t4.pub a2.out (by rw [k5];exact jk0 o5))
 have l6:own4 xb=0:=(t4.old xb lx).trans k5
 have z4:=hd_ (t2.out.trans t4)
 replace b2:=hd_ b2;clear t4 l1 e3 x2 x3 lx o6
 obtain⟨W4,g3⟩:∃ W4,W4=w3.setCell ⟨a.b,9,none⟩ (Z09 lb):=⟨_,rfl⟩
 rw [← g3] at b2 h5 z4
 replace k3:=hd_ k3;go_upto_region 2 with (fail)
 rw [← g3]
 clear q9 z9 p6;replace g3:=hd_ g3
 refine Z05 (fun _=>False) (.q 0 (.q 1 (.q 2 (.q 3 (.q 4 (.q 5 (.q 6 (.q 7 (.q 8 (.q 9 (.q 10 (.q 11 (.l 12 (.q 13 (.q 14 (.q 15 (.cut (.l 16 .fin)))))))))))))))))) (by kernel_rfl) (by kernel_rfl) ?_
 intro w5 h4 r0
 have f0:=b2.out.grow r0
 have d7:=Z01 (F:=fun _=>False) (b:=w5) (fun h=>h) (show w5.cell? ⟨a.b,10,none⟩=some (.int .i64 s.com) from f0.c 10)
 have k4:=f0.lt
 have u9:=Z01 (F:=fun _=>False) (b:=w5) (fun h=>h) (show w5.cell? ⟨a.b,9,none⟩=some (Z09 lb) from f0.c 9)
 have b3:=Z02 h5.out r0
 have x3:=Z01 (F:=fun _=>False) (b:=w5) (fun h=>h) (show w5.cell? ⟨xb,3,none⟩=some (.int .i64 bc) from Z00 b3 3)
 have lx:=Z04 b3
 have q6:w5.cell? ⟨a.b,10,none⟩=some (.int .i64 s.com):=f0.c 10
 have g7:=f0.free 10
 have v5:=hd_ (z4.out.trans (Turn.grow (J:=JK K) r0 b2.out.wf))
 have c5:=hok.out.o0
 have d5:=hok.out.o1
 have e5:=hok.out.lg
 obtain⟨nc,l4⟩:∃ nc,min (max s.com bc) (L.length:Int)=nc:=⟨_,rfl⟩
 replace b3:=hd_ b3;replace f0:=hd_ f0;clear h4;replace r0:=hd_ r0;iterate 12 (refine Z0n rfl ?_;go_big_quiet_step (fail);refine wpQuiet_nil ?_)
 refine Z0j rfl (by kernel_rfl) ?_;intro K1 hK;go_simp
 refine (Z0m lb L _ f0.out.r.lg.rd).mono ?_
 rintro r w6 ⟨rfl,rfl⟩
 refine hK _ _ (Chg.refl _ _) ?_
 clear hK K1;iterate 3 (refine Z0n rfl ?_;go_big_quiet_step (fail);refine wpQuiet_nil ?_)
 refine Z0h Z1j ?_;refine Z0j rfl (by kernel_rfl) ?_;intro K1 hK;go_simp
 obtain⟨d2,t6⟩:=f0.out.s10 nc
 refine hK _ _ (Z06 (Chg.refl _ _) trivial) ?_
 clear hK K1;refine Z0c ?_
 have i5:=hd_ (t6.pub b3.out (by omega))
 have a5:=hd_ (v5.out.trans (t6.mono jkK))
 obtain⟨W6,f4⟩:∃ W6,W6=w5.setCell ⟨a.b,10,none⟩ (.int .i64 nc):=⟨_,rfl⟩
 rw [← f4] at d2 i5 a5 ⊢
 replace f4:=hd_ f4;replace d2:=hd_ d2;replace l4:=hd_ l4;clear t6 u9 d7 x3 lx q6 g7 k4;go_upto_region 3 with (fail)
 refine Z0y (Zf6 a.b [11,12,20]) (.q 0 (.q 1 (.q 2 (.q 3 (.q 4 (.q 5 (.q 6 (.q 8 (.q 9 (.q 10 (.q 11 (.l 7 (.l 12 (.q 13 (.q 14 (.l 15 (.q 16 (.q 17 (.l 18 (.q 19 (.q 20 (.l 21 .fin)))))))))))))))))))))) (by kernel_rfl) (by kernel_rfl) ?_
 intro w7 e6 l3
 have f1:=d2.out.grow l3
 have e7:=Z1d (F:=Zf6 a.b [11,12,20]) (b:=w7) (g:=a.b) (o:=17) (fun h=>by have:=h.2;simp at this) (f1.c17 l2.out)
 obtain⟨x4,m1,b1⟩:=f1.votes j6.out l2.out
 have x5:Z0v x4=T:=by rw [← Z8g,← m1];exact r1.out
 have k6:=hd_ (Z02 i5.out l3)
 have t7:=hd_ (a5.out.trans (Turn.grow (J:=JK K) l3 d2.out.wf))
 have i4:=f1.lt
 replace f1:=hd_ f1
 replace b1:=hd_ b1.rd
 replace m1:=hd_ m1;clear e6 l3;iterate 11 (refine Z6l rfl ?_;go_big_quiet_step (fail);refine wpQuiet_nil ?_)
 refine Z4j rfl (by kernel_rfl) ?_;intro K1 hK;go_simp
 refine (Z53 vb u s.n x4 _ b1.out).mono ?_
 rintro r w8 ⟨rfl,rfl⟩
 refine hK _ _ (ChgC.refl _ _) ?_
 clear hK K1;refine Z4j rfl (by kernel_rfl) ?_;intro K1 hK;go_simp
 refine (Z54 vb u s.n x4 _ b1.out).mono ?_
 rintro r w8 ⟨rfl,c1⟩
 rw [x5]
 have v0:=f1.out.grow c1
 have j5:=Z02 k6.out c1
 have r6:w8.cell? ⟨a.b,11,none⟩=some (.int .i64 s.last):=v0.c 11
 have v6:w8.cell? ⟨a.b,12,none⟩=some (.int .i64 s.mem):=v0.c 12
 have y6:w8.cell? ⟨a.b,20,none⟩=some (.bool s.mine):=v0.c 20
 have h7:=v0.free 11
 have i7:=v0.free 12
 have k7:=v0.free 20
 have j4:=v0.lt
 obtain⟨hA,tA⟩:=v0.s11 u
 obtain⟨hB,tB⟩:=hA.s12 (T:Int)
 obtain⟨hC,tC⟩:=hB.s20 true
 have s3:=tC.pub (tB.pub (tA.pub j5 (by omega)) (by omega)) (by omega)
 have b5:=hd_ (t7.out.trans ((Turn.grow (J:=JK K) c1 f1.out.wf).trans ((tA.mono jkK).trans ((tB.mono jkK).trans (tC.mono jkK)))))
 replace hC:=hd_ hC;replace s3:=hd_ s3;clear hA hB tA tB tC v0 j5
 refine hK _ _ ((ChgC.refl _ _).on c1) ?_
 clear hK K1;refine Z6l rfl ?_;go_big_quiet_step (fail);refine wpQuiet_nil ?_;refine Z6l rfl ?_;go_big_quiet_step (fail);refine wpQuiet_nil ?_;refine Z4j rfl (by kernel_rfl) ?_;intro K1 hK;go_simp
 refine hK _ _ (((ChgC.refl _ _).on c1).set ⟨rfl,by simp⟩) ?_
 clear hK K1;refine Z6l rfl ?_;go_big_quiet_step (fail);refine wpQuiet_nil ?_;refine Z6l rfl ?_;go_big_quiet_step (fail);refine wpQuiet_nil ?_;refine Z4j rfl (by kernel_rfl) ?_;intro K1 hK;go_simp
 refine hK _ _ ((((ChgC.refl _ _).on c1).set ⟨rfl,by simp⟩).set ⟨rfl,by simp⟩) ?_
 clear hK K1;refine Z6l rfl ?_;go_big_quiet_step (fail);refine wpQuiet_nil ?_;refine Z6l rfl ?_;go_big_quiet_step (fail);refine wpQuiet_nil ?_;refine Z4j rfl (by kernel_rfl) ?_;intro K1 hK;go_simp
 refine hK _ _ (((((ChgC.refl _ _).on c1).set ⟨rfl,by simp⟩).set ⟨rfl,by simp⟩).set ⟨rfl,by simp⟩) ?_
 clear hK K1;refine Z0c ?_
 obtain⟨W9,i3⟩:∃ W9,W9=((w8.setCell ⟨a.b,11,none⟩ (.int .i64 u)).setCell ⟨a.b,12,none⟩ (.int .i64 (T:Int))).setCell ⟨a.b,20,none⟩ (.bool true):=⟨_,rfl⟩
 rw [← i3]
 rw [← i3] at hC s3 b5
 replace hC:=hd_ (show NdO own4 K W9 (a.wL lb) (s.ins1 L nc u T) out from hC.out)
 clear s3;replace i3:=hd_ i3;clear r6 v6 y6 h7 i7 k7 c1 e7 i4 j4;go_upto_region 4 with (fail)
 go_cut [54] (fun z wx=>z=Z09 a.b∧∃ own1 qb1,NdO own1 K wx ((a.wL lb).wQ qb1) ((s.ins1 L nc u T).ins2 (Qd.fresh s.n T s.id)) out∧Turn (JK K) own own1 w wx)
 case first=>
  refine Z05 (fun _=>False) (.q 0 (.q 1 (.q 2 (.q 3 (.q 4 (.q 5 (.q 6 (.q 7 (.q 8 (.q 9 (.q 10 (.q 11 (.q 12 (.l 13 (.q 14 (.q 15 (.cut (.l 16 .fin)))))))))))))))))) (by kernel_rfl) (by kernel_rfl) ?_
  intro w10 m2 k0
  have a0:=hC.out.grow k0
  have u0:=Z01 (F:=fun _=>False) (b:=w10) (fun h=>h) (show w10.cell? ⟨a.b,0,none⟩=some (.int .i64 s.id) from a0.c 0)
  have u1:=Z01 (F:=fun _=>False) (b:=w10) (fun h=>h) (show w10.cell? ⟨a.b,1,none⟩=some (.int .i64 s.n) from a0.c 1)
  have p2:=a0.lt
  have u12:=Z01 (F:=fun _=>False) (b:=w10) (fun h=>h) (show w10.cell? ⟨a.b,12,none⟩=some (.int .i64 (T:Int)) from a0.c 12)
  have q21:w10.cell? ⟨a.b,21,none⟩=some (Z3f a.qb):=a0.c 21
  have z21:w10.frozen? ⟨a.b,21,none⟩=false:=a0.free 21
  have g2:=hd_ (b5.out.trans (Turn.grow (J:=JK K) k0 hC.out.wf))
  replace a0:=hd_ a0;clear m2;replace k0:=hd_ k0;iterate 13 (refine Z0n rfl ?_;go_big_quiet_step (fail);refine wpQuiet_nil ?_)
  refine Z0j rfl (by kernel_rfl) ?_;intro K1 hK;go_simp
  have z1:Z2x ((T:Nat):Int) s.n=true:=by rw [← r1.out];exact hm.out
  cases hid:Z18 ((T:Nat):Int).toNat s.id
  ·refine (qNew_no2 s.n T s.id _ z1 hid).mono ?_
   rintro r w11 ⟨rfl,rfl⟩
   refine hK _ _ (Chg.refl _ _) ?_
   clear hK K1;refine Z0n rfl ?_;go_big_quiet_step (fail);refine wpQuiet_nil ?_;refine Z0n rfl ?_;go_big_quiet_step (fail);refine wpQuiet_nil ?_;refine Z0h Z1j ?_;refine Z0j rfl (by kernel_rfl) ?_;intro K1 hK;go_simp
   obtain⟨i0,t11⟩:=a0.out.noQ
   refine hK _ _ (Z06 (Chg.refl _ _) trivial) ?_
   clear hK K1;refine Z0c ?_
   have k1:Qd.fresh s.n T s.id=none:=by unfold Qd.fresh;rw [z1,hid];rfl
   have g1:=hd_ (g2.out.trans (t11.mono jkK))
   replace i0:=hd_ i0;replace k1:=hd_ k1;clear t11;go_wp2_with fail
   go_meet
   exact⟨rfl,own4,none,by rw [k1.out];exact i0.out,g1.out⟩
  ·refine (qNew_ok s.n T s.id _ z1 hid).mono ?_
   rintro r w11 ⟨rfl,m4,q0⟩
   refine hK _ _ (.of_below q0) ?_
   clear hK K1
   have m6:a.b<w11.heap.size:=Nat.lt_of_lt_of_le p2 q0.size
   have z6:w11.cell? ⟨a.b,21,none⟩=some (Z3f a.qb):=(a0.out.grow q0).c 21
   have l7:w11.frozen? ⟨a.b,21,none⟩=false:=(a0.out.grow q0).free 21
   refine Z0n rfl ?_;go_big_quiet_step (fail);refine wpQuiet_nil ?_;refine Z0n rfl ?_;go_big_quiet_step (fail);refine wpQuiet_nil ?_;refine Z0h Z1j ?_;refine Z0j rfl (by kernel_rfl) ?_;intro K1 hK;go_simp
   obtain⟨own11,i0,t11⟩:=a0.out.newQ ⟨s.n,T,s.id,z8,z8,0⟩ q0 m4
   refine hK _ _ (Z06 (Chg.refl _ _) trivial) ?_
   clear hK K1;refine Z0c ?_
   have k1:Qd.fresh s.n T s.id=some ⟨s.n,T,s.id,z8,z8,0⟩:=by unfold Qd.fresh;rw [z1,hid];rfl
   have g1:=hd_ (g2.out.trans t11)
   replace i0:=hd_ i0;replace k1:=hd_ k1;clear t11;go_wp2_with fail
   go_meet
   exact⟨rfl,own11,_,by rw [k1.out];exact i0.out,g1.out⟩
 case rest=>
  obtain⟨rfl,own5,q1,c2,j1⟩:=hcut
  rename World=>w12
  obtain⟨qf,v2⟩:∃ qf,Qd.fresh s.n T s.id=qf:=⟨_,rfl⟩
  rw [v2] at c2
  replace v2:=hd_ v2;replace c2:=hd_ c2;replace j1:=hd_ j1;go_upto_region 5 with (fail)
  refine Z05 (fun _=>False) (.q 0 (.q 1 (.q 2 (.q 3 (.q 4 (.q 5 (.q 6 (.q 7 (.q 8 (.q 9 (.q 10 (.q 11 (.l 12 (.cut (.l 13 .fin))))))))))))))) (by kernel_rfl) (by kernel_rfl) ?_
  intro w13 n2 l0
  have b0:=c2.out.grow l0
  have u0:=Z01 (F:=fun _=>False) (b:=w13) (fun h=>h) (show w13.cell? ⟨a.b,0,none⟩=some (.int .i64 s.id) from b0.c 0)
  have q2:=b0.lt
  have u9:=Z01 (F:=fun _=>False) (b:=w13) (fun h=>h) (show w13.cell? ⟨a.b,9,none⟩=some (Z09 lb) from b0.c 9)
  have f7:=Z01 (F:=fun _=>False) (b:=w13) (fun h=>h) (show w13.cell? ⟨a.b,21,none⟩=some (Z3f q1) from b0.c 21)
  have d4:=hd_ (j1.out.trans (Turn.grow (J:=JK K) l0 c2.out.wf))
  replace b0:=hd_ b0;clear n2;replace l0:=hd_ l0;iterate 12 (refine Z0n rfl ?_;go_big_quiet_step (fail);refine wpQuiet_nil ?_)
  refine Z0j rfl (by kernel_rfl) ?_;intro K1 hK;go_simp
  refine (Z0m lb L _ b0.out.r.lg.rd).mono ?_
  rintro r w14 ⟨rfl,rfl⟩
  refine hK _ _ (Chg.refl _ _) ?_
  clear hK K1;refine Z0h Z1j ?_;refine Z0j rfl (by kernel_rfl) ?_;intro K1 hK;go_simp
  have y4:Calls Tryz.prog 177 #[Z3f q1, .int .i64 s.id, .int .i64 L.length, .int .i64 0] w13 fun r w'=>∃ b,r=.returned (.bool b)∧∃ own',NdO own' K w' ((a.wL lb).wQ q1) ((s.ins1 L nc u T).ins2 (qf.map fun q=>q.ack s.id L.length 0)) out∧Turn (JK K) own5 own' w13 w':=by
   cases qf with
   | none=>
     have e:q1=none:=b0.out.qnone rfl
     subst e
     refine (Ze4 s.id L.length 0 w13).mono ?_
     rintro r w' ⟨rfl,rfl⟩
     exact⟨false,rfl,own5,b0.out, .grow (Below.refl _ _) b0.out.wf⟩
   | some q=>
     obtain⟨qb,e,_,_⟩:=b0.out.qsome (q:=q) rfl
     have e:q1=some qb:=e
     subst e
     have f6:0≤q.mem∧q.mem<128:=by
      have e2:=v2.out
      unfold Qd.fresh at e2
      split at e2
      ·injection e2 with e2;rw [← e2];show 0≤(T:Int)∧(T:Int)<128;omega
      ·cases e2
     refine (ndQAck b0.out (q:=q) rfl rfl f6 s.id L.length 0).mono ?_
     rintro r w' ⟨rfl,own',h1,h2⟩
     exact⟨_,rfl,own',h1,h2⟩
  refine y4.mono ?_
  rintro r w14 ⟨bq,rfl,own6,c0,t14⟩
  refine hK _ _ (Z0l t14) ?_
  clear hK K1;refine Z0c ?_;clear y4
  have e4:=hd_ (d4.out.trans t14)
  obtain⟨qn,p3⟩:∃ qn,qf.map (fun q=>q.ack s.id L.length 0)=qn:=⟨_,rfl⟩
  rw [p3] at c0
  replace p3:=hd_ p3;clear t14 u0 u9 f7 q2
  have c9:w14.cell? ⟨a.b,9,none⟩=some (Z09 lb):=c0.c 9
  have d1:=hd_ (show rdLog w14 lb L from c0.r.lg.rd)
  have a7:w14.cell? ⟨a.b,22,none⟩=some (.int .i64 s.start):=c0.c 22
  have b7:w14.cell? ⟨a.b,23,none⟩=some (.int .i64 s.acked):=c0.c 23
  have c7:w14.cell? ⟨a.b,32,none⟩=some a.av:=(Z00 c0.blk 32).trans (Z6f _ _ c0.ears)
  have x6:w14.cell? ⟨a.b,17,none⟩=some (Z3f a.v):=c0.c 17
  have m7:w14.frozen? ⟨a.b,22,none⟩=false:=c0.free 22
  have n7:w14.frozen? ⟨a.b,23,none⟩=false:=c0.free 23
  have o7:w14.frozen? ⟨a.b,32,none⟩=false:=c0.free 32
  have j7:w14.frozen? ⟨a.b,17,none⟩=false:=c0.free 17
  have v4:a.b<w14.heap.size:=c0.lt
  obtain⟨hA,tA⟩:=c0.s22 (L.length:Int)
  obtain⟨hB,tB⟩:=hA.s23 0
  obtain⟨hC,tC⟩:=hB.s32n
  obtain⟨hD,tD⟩:=hC.s17n
  have i1:=hd_ (e4.out.trans ((tA.mono jkK).trans ((tB.mono jkK).trans ((tC.mono jkK).trans (tD.mono jkK)))))
  replace hD:=hd_ hD;clear hA hB hC tA tB tC tD;replace c0:=hd_ c0;go_wp2_with fail
  refine (Z0m lb L _ d1.out).mono ?_
  rintro r w15 ⟨rfl,rfl⟩;go_wp2
  obtain⟨W15,p0⟩:∃ W15,W15=(((w14.setCell ⟨a.b,22,none⟩ (.int .i64 L.length)).setCell ⟨a.b,23,none⟩ (.int .i64 0)).setCell ⟨a.b,32,none⟩ (.slice none 0 0)).setCell ⟨a.b,17,none⟩ (.pointer none):=⟨_,rfl⟩
  have t0:=hd_ (show NdO own6 K W15 ((a.wL lb).wQ q1).w0 (((s.ins1 L nc u T).ins2 qn).ins3 L.length) out from p0 ▸ hD.out)
  replace i1:=hd_ (show Turn (JK K) own own6 w W15 from p0 ▸ i1.out)
  rw [← p0]
  replace p0:=hd_ p0
  obtain⟨s4,p1⟩:∃ s4,((s.ins1 L nc u T).ins2 qn).ins3 L.length=s4:=⟨_,rfl⟩
  obtain⟨a4,k2⟩:∃ a4,((a.wL lb).wQ q1).w0=a4:=⟨_,rfl⟩
  have g0:a4.b=a.b:=by rw [← k2];rfl
  have r5:At0 a a4:=by rw [← k2];exact⟨rfl,rfl,rfl,rfl,rfl⟩
  rw [p1,k2] at t0
  have s0:s4.clock=s.clock:=by rw [← p1];rfl
  have y2:s4.mem=T:=by rw [← p1];rfl
  have w2:s4.L=L:=by rw [← p1];rfl
  replace p1:=hd_ p1;replace k2:=hd_ k2;replace w2:=hd_ w2;replace y2:=hd_ y2
  have c6:=hd_ t0.out.ears
  replace g0:=hd_ g0;replace s0:=hd_ s0;clear hD c9 a7 b7 c7 x6 m7 n7 o7 j7 v4 d1 c0
  go_loopw [101] (fun i wr=>∃ k:Nat,k≤8∧i=.int .i64 k∧NdO own6 K wr a4 (s4.insE k) out∧Turn (JK K) own6 own6 W15 wr) (fun i _=>8-(intOf i).toNat)
  case atStart=>exact⟨0,Nat.zero_le _,rfl,t0.out, .grow (Below.refl _ _) t0.out.wf⟩
  case round=>
   obtain⟨k,hk,rfl,f2,r3⟩:=hrel
   replace f2:=hd_ f2;replace r3:=hd_ r3
   by_cases hk8:k<8
   ·go_upto_region 10 with (fail)
    refine Z05 (fun _=>False) (.q 0 (.q 1 (.q 2 (.q 3 (.q 4 (.q 5 (.q 6 (.q 7 (.q 8 (.cut (.l 9 .fin))))))))))) (by kernel_rfl) (by kernel_rfl) ?_
    intro w16 o2 m0
    have d0:=f2.out.grow m0
    have r2:=d0.lt
    have u4:=Z01 (F:=fun _=>False) (b:=w16) (fun h=>h) (show w16.cell? ⟨a.b,4,none⟩=some (.int .i64 s.clock) from by rw [← g0.out,← s0.out];exact d0.c 4)
    have i6:=hd_ (r3.out.trans (Turn.grow (J:=JK K) m0 f2.out.wf))
    have d6:((s4.insE k).ears).length=8:=d0.ears
    have qe:w16.cell? ⟨a.b,24+k,none⟩=some (.int .i64 ((s4.insE k).ears.getD k 0)):=by rw [← g0.out];exact (Z00 d0.blk (24+k)).trans (Zce _ _ d0.ears k hk8)
    have ze:w16.frozen? ⟨a.b,24+k,none⟩=false:=by rw [← g0.out];exact d0.free (24+k)
    rw [g0.out] at r2
    generalize (s4.insE k).ears.getD k 0=ek at qe
    obtain⟨hE,tE⟩:=d0.sear k hk8 s.clock
    have y3:NdO own6 K (w16.setCell ⟨a.b,24+k,none⟩ (.int .i64 s.clock)) a4 (s4.insE (k+1)) out:=by
     rw [← g0.out]
     have e:{ s4.insE k with ears:=(s4.insE k).ears.set k s.clock }=s4.insE (k+1):=by
      unfold Nd.insE
      rw [← s0.out]
      exact congrArg (fun l=>({ s4 with ears:=l }:Nd)) (Ziw s4 c6.out k hk8)
     rw [← e]
     exact hE
    have h6:=hd_ (show Turn (JK K) own6 own6 W15 (w16.setCell ⟨a.b,24+k,none⟩ (.int .i64 s.clock)) from by rw [← g0.out];exact i6.out.trans (tE.mono jkK))
    replace y3:=hd_ y3;clear hE tE d6;replace d0:=hd_ d0;clear o2;replace m0:=hd_ m0;iterate 9 (refine Z0n rfl ?_;go_big_quiet_step (fail);refine wpQuiet_nil ?_)
    refine Z0h Z1j ?_;refine Z0j rfl (by kernel_rfl) ?_;intro K1 hK;go_simp
    refine hK _ _ (Z06 (Chg.refl _ _) trivial) ?_
    clear hK K1;refine Z0c ?_;go_wp2
    go_roundw
    case rel=>exact⟨k+1,by omega,by go_num,y3.out,h6.out⟩
    case measure=>simp [intOf];omega
   ·obtain rfl:k=8:=by omega
    obtain⟨s5,z2⟩:∃ s5,s4.insE 8=s5:=⟨_,rfl⟩
    have j0:=f2.out
    rw [z2] at j0
    have n4:s5.clock=s.clock:=by rw [← z2];exact s0.out
    have c4:wr.cell? ⟨a.b,4,none⟩=some (.int .i64 s.clock):=by rw [← g0.out,← n4];exact j0.c 4
    have q5:wr.cell? ⟨a.b,5,none⟩=some (.int .i64 s5.heard):=by rw [← g0.out];exact j0.c 5
    have z5:wr.frozen? ⟨a.b,5,none⟩=false:=by rw [← g0.out];exact j0.free 5
    have w4:a.b<wr.heap.size:=by rw [← g0.out];exact j0.lt
    obtain⟨hF,tF⟩:=j0.s5 s.clock
    obtain⟨s6,q3⟩:∃ s6:Nd,{ s5 with heard:=s.clock }=s6:=⟨_,rfl⟩
    rw [q3] at hF
    have j2:=hd_ (i1.out.trans (r3.out.trans (tF.mono jkK)))
    have n0:s6=(s.installs u l):=by
     have x1:(Z57 l).lg=yl:=by rw [e0.out];exact c3.out
     have y5:(Z57 l).com=bc:=by rw [e0.out]
     rw [← q3,← z2]
     unfold Nd.insE
     rw [← p1.out]
     unfold Nd.installs
     simp only [x1,y5,hL.out,l4.out,r1.out,v2.out,p3.out]
     have he8:s.ears.length=8:=h.out.ears
     show ({ id:=_,n:=_,boot:=_,clock:=_,heard:=_,knows:=_,L:=_,com:=_,last:=_,mem:=_,pend:=_,pseq:=_,td:=_,tb:=_,pf:=_,v:=_,denied:=_,again:=_,mine:=_,q:=_,start:=_,acked:=_,ears:=List.replicate 8 s.clock++s.ears.drop 8,asked:=_,boots:=_,jp:=_,dv:=_ }:Nd)=_
     rw [List.drop_of_length_le (by omega),List.append_nil]
     rfl
    have a3:s6.mem=T:=by rw [n0];show ((Z0v (mkV l):Nat):Int)=T;rw [r1.out]
    have o4:s6.L.length≤60:=by rw [n0];show (Z2y (Z57 l).lg).length≤60;exact Z2d _
    obtain⟨W18,x0⟩:∃ W18,W18=wr.setCell ⟨a.b,5,none⟩ (.int .i64 s.clock):=⟨_,rfl⟩
    rw [g0.out,← x0] at hF j2
    have c12:W18.cell? ⟨a.b,12,none⟩=some (.int .i64 (T:Int)):=by rw [← g0.out,← a3];exact hF.c 12
    have n6:a.b<W18.heap.size:=by rw [← g0.out];exact hF.lt
    replace hF:=hd_ hF;replace z2:=hd_ z2;replace q3:=hd_ q3;replace n0:=hd_ n0;clear tF j0;go_upto_region 13 with (fail)
    rw [← x0]
    replace x0:=hd_ x0;clear c4 q5 z5 w4;go_wp2_with fail
    have p5:=o4
    have hO:=Z61 hF.out T i2 135 #[Z09 a.b] #[] (Zam Tryz.func135 (by kernel_rfl) (by kernel_rfl)) s6.whole (fun own1 a1 out1 w1 k h1 e1 t1 hlen hk=>Z8i h1 k a.b (e1.b.trans g0.out) p5 (by omega))
    rw [g0.out] at hO
    refine hO.mono ?_
    rintro r w19 ⟨rfl,g5⟩
    have p4:=hd_ (g5.after r5 j2)
    clear g5 hO;go_wp2
    go_end0
    refine⟨rfl,?_⟩
    have:=p4.out
    rw [n0.out] at this
    have hi:s.install u l=(s.installs u l,((s.installs u l).others (s.installs u l).mem).map (s.installs u l).whole):=rfl
    rw [hi]
    have z1:((s.installs u l).mem).toNat=T:=by rw [← n0.out,a3];rfl
    unfold Nd.others
    rw [z1]
    exact this
end
end
section
open Go.RowKit
theorem Zed (f:Int→List Ms) (B:Nat) (h:∀ k,(f k).length≤B):∀ l:List Int,(l.flatMap f).length≤B*l.length
 | []=>by simp
 | x :: l=>by
   have:=Zed f B h l
   have:=h x
   rw [List.flatMap_cons,List.length_append,List.length_cons,Nat.mul_add];omega
def gsay (s:Nd) (T:Nat) (u k:Int):List Ms:=if !Z18 T k then [{ s.ms 1 k with view:=u }] else []
theorem Z7g {α β:Type} (p:α→Bool) (g:α→β):∀ l:List α,(l.filter p).map g=l.flatMap fun k=>if p k then [g k] else []
 | []=>rfl
 | x :: l=>by
   rw [List.filter_cons,List.flatMap_cons,← Z7g p g l]
   cases p x<;>rfl
section
variable {own:Nat→Nat} {K:Nat} {w:World} {a:NdAt} {s:Nd} {out:List MsS}
theorem Zcn (h:NdO own K w a s out) (T:Nat) (hT:T<128) (fn:FuncId) (pre caps:Array Value) (hfn:∀ args w,(callFunc fn args).run Tryz.prog w=.ok (.enter fn args) w) (f:Int→List Ms)
  (B:Nat) (hB:∀ k,(f k).length≤B) (hst:∀ own1 a1 out1 w1 k,NdO own1 K w1 a1 s out1→At0 a a1→Turn (JK K) own own1 w w1→out1.length≤out.length+7*B→k ∈ Z16 s.id s.n T →
   Calls Tryz.prog fn (pre.push (.int .i64 k)++caps) w1 fun r w2=>r=.returned (.tuple #[])∧∃ own2 a2 o2,NdO own2 K w2 a2 s o2∧o2.map MsS.m=out1.map MsS.m++f k∧At0 a1 a2∧Turn (JK K) own1 own2 w1 w2) :
  Calls Tryz.prog 125 #[Z09 a.b, .int .i64 (T:Int), .func (.func fn) pre caps] w fun r w'=>r=.returned (.tuple #[])∧Stp own K w a w' s (out.map MsS.m++(Z16 s.id s.n T).flatMap f):=by
 have e0:=h.r.k16
 have hle:(Z16 s.id s.n T).length≤7:=Nat.le_trans (List.length_filter_le _ _) (Z38 T 7)
 refine (Z4s a.b s.id s.n T hT fn pre caps hfn (fun wb l w1=>∃ own1 a1 o1,NdO own1 K w1 a1 s o1∧o1.map MsS.m=out.map MsS.m++l.flatMap f∧At0 a a1∧Turn (JK K) own own1 w w1 ∧
   ∀ c,w.heap.size≤c→c<wb.heap.size→own1 c=0∧c<w1.heap.size∧w1.heap[c]?=wb.heap[c]?) w ?_ (h.c 0) ?_ ?_ ?_).mono ?_
 ·exact fun wb hb=>⟨own,a,out,h.grow hb,by simp, .refl a, .grow hb h.wf,fun c h1 h2=>⟨h.wf c h1,h2,rfl⟩⟩
 ·rintro wb l w1 ⟨own1,a1,o1,h1,e1,e2,e3,e4⟩
  exact⟨h1.cb e2.b 0,h1.cb e2.b 1⟩
 ·rintro wb l w1 ⟨own1,a1,o1,h1,e1,e2,e3,e4⟩ c b0 c0
  exact (e4 c b0 c0).2.2
 ·rintro wb l k w1 ⟨own1,a1,o1,h1,e1,e2,e3,e4⟩ a0
  have hk:k ∈ Z16 s.id s.n T:=a0.subset (by simp)
  have d0:o1.length≤out.length+7*B:=by
   have:=congrArg List.length e1
   rw [List.length_map,List.length_append,List.length_map] at this
   have h1:=Zed f B (fun k=>hB k) l
   have:=a0.length_le
   simp only [List.length_append,List.length_singleton] at this
   have h2:B*l.length≤B*7:=Nat.mul_le_mul_left _ (by omega)
   omega
  refine (hst own1 a1 o1 w1 k h1 e2 e3 d0 hk).mono ?_
  rintro r w2 ⟨rfl,own2,a2,o2,h2,f1,f2,f3⟩
  refine⟨rfl,own2,a2,o2,h2,by rw [f1,e1,List.flatMap_append,List.append_assoc];simp,e2.trans f2,e3.trans f3,fun c b0 c0=>?_⟩
  obtain⟨g1,g2,g3⟩:=e4 c b0 c0
  exact⟨(f3.old c g2).trans g1,Nat.lt_of_lt_of_le g2 f3.chg.size,(f3.chg.block c g2 (by rw [g1];exact jk0 e0)).trans g3⟩
 ·rintro r w' ⟨rfl,wb,hb,own1,a1,o1,h1,e1,e2,e3,e4⟩
  exact⟨rfl,own1,a1,o1,h1,e1,e2,e3⟩
theorem Z6g (h:NdO own K w a s out) (hm:0≤s.mem∧s.mem<128) :
  Calls Tryz.prog 73 #[Z09 a.b] w fun r w'=>r=.returned (.bool s.decides)∧Below w.heap.size w w':=by
 have e:s.decides=(s.in_&&s.mine):=rfl
 rw [e]
 have hI:=hd_ (Z41 own K a s out w h hm)
 replace h:=hd_ h
 generalize s.in_=b at hI ⊢
 go_enter Tryz.func73,Tryz.ntmps73
 go_wp2_with fail
 refine hI.out.mono ?_
 rintro r w1 ⟨rfl,a0⟩
 have h1:=h.out.grow a0
 have c20:w1.cell? ⟨a.b,20,none⟩=some (.bool s.mine):=h1.c 20
 have la:=h1.lt
 replace a0:=hd_ a0;replace h1:=hd_ h1;clear hI e
 cases b
 ·go_wp2
  go_ret
  exact⟨rfl,a0.out⟩
 ·go_wp2
  go_ret
  exact⟨rfl,a0.out⟩
theorem Zar (h:NdO own K w a s out) (k u:Int) (l:List Vt) (b pb:Nat) (hb:a.b=b) (hv:s.v=some (u,l)) (h1:w.heap[pb]?=some (.cells #[Z09 b] 30 (0,0))) (hpo:own pb=0) (hl:out.length≤1000000000) :
  Calls Tryz.prog 126 #[.int .i64 k, .pointer (some ⟨pb,0,none⟩)] w fun r w'=>r=.returned (.tuple #[])∧∃ own2 a2 o2,NdO own2 K w' a2 s o2 ∧
   o2.map MsS.m=out.map MsS.m++gsay s (Z0v (mkV l)) u k∧At0 a a2∧Turn (JK K) own own2 w w':=by
 subst hb
 obtain⟨vb,d0⟩:=h.vsome hv
 obtain⟨ls,k0,p0⟩:=h.votes hv d0
 obtain⟨T,hT⟩:∃ T,Z0v ls=T:=⟨_,rfl⟩
 have n0:Z0v (mkV l)=T:=by rw [k0,Z8g,hT]
 have c0:T<128:=by rw [← hT];exact Z31 _
 rw [n0]
 have c1:w.cell? ⟨pb,0,none⟩=some (Z09 a.b):=Z00 h1 0
 have q0:=h.c17 d0
 have l1:=Z04 h1
 have la:=h.lt
 have h16:=h.r.k16
 have o0:=hd_ p0.rd
 replace hv:=hd_ hv;replace d0:=hd_ d0;replace k0:=hd_ k0;replace h:=hd_ h;replace h1:=hd_ h1;clear p0 n0
 go_enter Tryz.func126,Tryz.ntmps126
 go_wp2_with fail
 refine (Z54 vb u s.n ls _ o0.out).mono ?_
 rintro r w1 ⟨rfl,e0⟩
 rw [hT]
 go_wp2_with fail
 refine (Z5k T k _ c0).mono ?_
 rintro r w2 ⟨rfl,rfl⟩
 have g0:=hd_ (h.out.grow e0)
 have t1:=hd_ (Turn.grow (J:=JK K) (own:=own) e0 h.out.wf)
 have t0:=hd_ (Z02 h1.out e0)
 have l0:=hd_ (o0.out.grow e0)
 clear c1 q0 l1 la e0 hT
 obtain⟨hh,i0⟩:∃ hh,Z18 T k=hh:=⟨_,rfl⟩
 rw [i0]
 cases hh
 case true=>
  go_wp2
  go_end0
  refine⟨rfl,own,a,out,g0.out,?_, .refl a,t1.out⟩
  unfold gsay
  rw [i0];simp
 go_upto_region 1 with (fail)
 refine Z05 (fun _=>False) (.q 0 (.q 1 (.q 2 (.q 3 (.q 4 (.q 5 (.l 6 (.l 7 (.cut (.l 8 .fin)))))))))) (by kernel_rfl) (by kernel_rfl) ?_
 intro w3 j0 a0
 have b0:=g0.out.grow a0
 have s0:=b0.lt
 have f0:=Z02 t0.out a0
 have up:=Z01 (F:=fun _=>False) (b:=w3) (fun h=>h) (show w3.cell? ⟨pb,0,none⟩=some (Z09 a.b) from Z00 f0 0)
 have u17:=Z01 (F:=fun _=>False) (b:=w3) (fun h=>h) (b0.c17 d0.out)
 have hlp:=Z04 f0
 have t3:=hd_ (t1.out.trans (Turn.grow (J:=JK K) a0 g0.out.wf))
 have m0:=hd_ (l0.out.grow a0)
 replace f0:=hd_ f0;replace b0:=hd_ b0;clear j0;replace a0:=hd_ a0;iterate 6 (refine Z0n rfl ?_;go_big_quiet_step (fail);refine wpQuiet_nil ?_)
 refine Z0j rfl (by kernel_rfl) ?_;intro K1 hK;go_simp
 refine (Z53 vb u s.n ls _ m0.out).mono ?_
 rintro r w4 ⟨rfl,rfl⟩
 refine hK _ _ (Chg.refl _ _) ?_
 clear hK K1;refine Z0j rfl (by kernel_rfl) ?_;intro K1 hK;go_simp
 refine hK _ _ (Chg.refl _ _) ?_
 clear hK K1;refine Z0h Z1j ?_;refine Z0j rfl (by kernel_rfl) ?_;intro K1 hK;go_simp
 refine (Z6n b0.out ⟨1,0,k,0,u,0,0,0,[],0,0,0,false⟩ none 0 (Z4e _ _) hl).mono ?_
 rintro r w5 ⟨rfl,own5,a5,o5,h0,e5,f5,t5⟩
 refine hK _ _ (Z0l t5) ?_
 clear hK K1;refine Z0c ?_
 have r0:=hd_ (t3.out.trans t5)
 replace h0:=hd_ h0;replace e5:=hd_ e5;clear t5;go_wp2
 go_end0
 exact⟨rfl,own5,a5,o5,h0.out,by rw [e5.out];unfold gsay;rw [i0];rfl,f5,r0.out⟩
theorem Zco (c:Nat) (h:NdO own K w a s out) (hok:Ok c s) (hl:out.length≤1000000) (hc:c≤1000000000) (u:Int) (l:List Vt) (hv:s.v=some (u,l)) :
  Calls Tryz.prog 72 #[Z09 a.b] w fun r w'=>r=.returned (.tuple #[])∧Stp own K w a w' (s.gather u l).1 (out.map MsS.m++(s.gather u l).2):=by
 obtain⟨vb,y0⟩:=h.vsome hv
 obtain⟨ls,j1,p1⟩:=h.votes hv y0
 obtain⟨T,hT⟩:∃ T,Z0v ls=T:=⟨_,rfl⟩
 have m0:Z0v (mkV l)=T:=by rw [j1,Z8g,hT]
 have r1:=h.r.k16
 have a2:=hok.n3
 have b2:=hok.n7
 obtain⟨W0,n0⟩:∃ W,W=w.alloc (.cells #[Z09 a.b] 30):=⟨_,rfl⟩
 have w0:Below w.heap.size w W0:=n0 ▸ (Below.refl _ _).alloc (Nat.le_refl _) _
 have k0:W0.heap[w.heap.size]?=some (.cells #[Z09 a.b] 30 (0,0)):=n0 ▸ Z0a _ _
 obtain⟨pb,d1⟩:∃ pb,pb=w.heap.size:=⟨_,rfl⟩
 rw [← d1] at k0
 have i0:=h.grow w0
 have o1:own pb=0:=h.wf pb (by omega)
 have t0:=hd_ (Turn.grow (J:=JK K) (own:=own) w0 h.wf)
 have c0:W0.cell? ⟨pb,0,none⟩=some (Z09 a.b):=Z00 k0 0
 have q1:=i0.c17 y0
 have l0:=Z04 k0
 have d2:=i0.lt
 have v0:=hd_ (p1.grow w0).rd
 obtain⟨m,p0⟩:∃ m,Z2x (T:Int) s.n=m:=⟨_,rfl⟩
 have a0:s.gather u l=if m then s.install u l else if s.again||s.late then s.propose else (s,((s.others s.all).filter fun k => !Z18 T k).map fun k=>{ s.ms 1 k with view:=u }):=by
  unfold Nd.gather;rw [m0,p0]
 obtain⟨R,hR⟩:∃ R,s.gather u l=R:=⟨_,rfl⟩
 rw [hR]
 rw [hR] at a0
 obtain⟨ag,x0⟩:∃ ag,s.again=ag:=⟨_,rfl⟩
 obtain⟨lt,b1⟩:∃ lt,s.late=lt:=⟨_,rfl⟩
 rw [x0,b1] at a0
 replace a0:=hd_ a0;replace hR:=hd_ hR;replace i0:=hd_ i0;replace k0:=hd_ k0;replace hok:=hd_ hok;replace hv:=hd_ hv;replace y0:=hd_ y0;replace j1:=hd_ j1;replace d1:=hd_ d1;replace m0:=hd_ m0;clear h p1 w0
 go_enter Tryz.func72,Tryz.ntmps72
 go_upto_region 2 with (fail)
 rw [← n0,← d1.out]
 replace n0:=hd_ n0;go_wp2_with fail
 refine (Z73 vb u s.n ls _ v0.out).mono ?_
 rintro r w1 ⟨rfl,z0⟩
 rw [hT,p0]
 have j0:=hd_ (i0.out.grow z0)
 have t1:=hd_ (t0.out.trans (Turn.grow (J:=JK K) z0 i0.out.wf))
 have q0:=Z02 k0.out z0
 have c1:w1.cell? ⟨pb,0,none⟩=some (Z09 a.b):=Z00 q0 0
 have l1:=Z04 q0
 have e2:=j0.out.lt
 have k1:w1.cell? ⟨a.b,19,none⟩=some (.bool s.again):=j0.out.c 19
 replace q0:=hd_ q0;replace hT:=hd_ hT;clear z0 c0 q1 l0 d2 v0
 cases m
 case true=>
  go_wp2_with fail
  refine (Zaq c j0.out hok.out hl u l hv.out (by rw [m0.out];exact p0)).mono ?_
  rintro r w2 ⟨rfl,f0⟩
  have e0:=hd_ (f0.after (.refl a) t1.out)
  clear f0;go_wp2
  go_end0
  have e:R=s.install u l:=a0.out
  rw [e]
  exact⟨rfl,e0.out⟩
 replace p0:=hd_ p0
 have m1:=hd_ (Zak own K a s out w1 j0.out (by have:=hok.out.c0;omega) (by have:=hok.out.c1;omega) (by have:=hok.out.h0;omega) (by have:=hok.out.h1;have:=hok.out.c1;omega) (by have:=hok.out.i1;omega) (by have:=hok.out.in_;omega))
 rw [x0] at k1
 rw [b1] at m1
 replace x0:=hd_ x0;replace b1:=hd_ b1;go_upto_region 4 with (fail)
 go_cut [19] (fun z wx=>z=.bool (ag||lt)∧Below w1.heap.size w1 wx)
 case first=>
  cases ag
  case true=>
   go_wp2_with fail
   go_meet
   exact⟨rfl,Below.refl _ _⟩
  case false=>
   go_wp2_with fail
   refine m1.out.mono ?_
   rintro r w2 ⟨rfl,g0⟩;replace g0:=hd_ g0;go_wp2_with fail
   go_meet
   exact⟨by simp,g0.out⟩
 case rest=>
  obtain⟨rfl,g0⟩:=hcut
  rename World=>w2
  obtain⟨al,o0⟩:∃ al,(ag||lt)=al:=⟨_,rfl⟩
  rw [o0]
  replace o0:=hd_ o0
  have f1:=hd_ (j0.out.grow g0)
  have t2:=hd_ (t1.out.trans (Turn.grow (J:=JK K) g0 j0.out.wf))
  have r0:=Z02 q0.out g0
  have c2:w2.cell? ⟨pb,0,none⟩=some (Z09 a.b):=Z00 r0 0
  have l2:=Z04 r0
  replace r0:=hd_ r0;clear g0 c1 l1 e2 k1
  cases al
  case true=>
   go_wp2_with fail
   refine (Z43 c f1.out hok.out hl).mono ?_
   rintro r w3 ⟨rfl,f0⟩
   have e0:=hd_ (f0.after (.refl a) t2.out)
   clear f0;go_wp2
   go_end0
   have e:R=s.propose:=by rw [a0.out,o0.out];rfl
   rw [e]
   exact⟨rfl,e0.out⟩
  go_upto_region 1 with (fail)
  refine Z05 (fun _=>False) (.q 0 (.q 1 (.q 2 (.q 3 (.q 4 (.q 5 (.q 6 (.l 7 (.cut (.l 8 .fin)))))))))) (by kernel_rfl) (by kernel_rfl) ?_
  intro w3 g1 d0
  have b0:=f1.out.grow d0
  have u1:=Z01 (F:=fun _=>False) (b:=w3) (fun h=>h) (show w3.cell? ⟨a.b,1,none⟩=some (.int .i64 s.n) from b0.c 1)
  have z1:=b0.lt
  have s0:=Z02 r0.out d0
  have up:=Z01 (F:=fun _=>False) (b:=w3) (fun h=>h) (show w3.cell? ⟨pb,0,none⟩=some (Z09 a.b) from Z00 s0 0)
  have y1:=Z04 s0
  have t3:=hd_ (t2.out.trans (Turn.grow (J:=JK K) d0 f1.out.wf))
  replace s0:=hd_ s0;replace b0:=hd_ b0;clear g1;replace d0:=hd_ d0;iterate 7 (refine Z0n rfl ?_;go_big_quiet_step (fail);refine wpQuiet_nil ?_)
  refine Z0j rfl (by kernel_rfl) ?_;intro K1 hK;go_simp
  refine hK _ _ (Chg.refl _ _) ?_
  clear hK K1;refine Z0h Z1j ?_;refine Z0j rfl (by kernel_rfl) ?_;intro K1 hK;go_simp
  have n1:=Ziv s.n a2 b2
  have v1:2 ^ s.n.toNat-1<128:=by
   rcases (by omega:s.n=3∨s.n=4∨s.n=5∨s.n=6∨s.n=7) with e | e | e | e | e<;>rw [e]<;>decide
  have s1:s.all.toNat=2 ^ s.n.toNat-1:=by
   unfold Nd.all
   rcases (by omega:s.n=3∨s.n=4∨s.n=5∨s.n=6∨s.n=7) with e | e | e | e | e<;>rw [e]<;>rfl
  rw [n1]
  refine (Zcn b0.out (2 ^ s.n.toNat-1) v1 126 #[] #[.pointer (some ⟨pb,0,none⟩)] (Zam Tryz.func126 (by kernel_rfl) (by kernel_rfl)) (gsay s (Z0v (mkV l)) u) 1 (fun k=>by unfold gsay;split<;>simp) ?_).mono ?_
  ·intro own1 a1 out1 w1 k h1 e1 t1 x1 hk
   exact Zar h1 k u l a.b pb e1.b hv.out (t1.pub s0.out (by rw [o1];exact jk0 r1)) ((t1.old pb y1).trans o1) (by omega)
  rintro r w16 ⟨rfl,f0⟩
  refine hK _ _ (by obtain⟨_,_,_,_,_,_,t⟩:=f0;exact Z0l t) ?_
  clear hK K1;refine Z0c ?_
  have e0:=hd_ (f0.after (.refl a) t3.out)
  clear f0 n1;go_wp2
  go_end0
  refine⟨rfl,?_⟩
  have:=e0.out
  have e:R=(s,((s.others s.all).filter fun k => !Z18 T k).map fun k=>{ s.ms 1 k with view:=u }):=by rw [a0.out,o0.out];rfl
  rw [e]
  show Stp own K w a _ s (out.map MsS.m++((s.others s.all).filter fun k => !Z18 T k).map fun k=>{ s.ms 1 k with view:=u })
  rw [Z7g]
  unfold Nd.others
  rw [s1]
  rw [m0.out] at this
  exact this
end
end
section
open Go.RowKit
def Zfx (own:Nat→Nat) (K:Nat) (w:World) (a:NdAt) (w':World) (s':Nd) (msgs:List Ms) (v:Value):Prop:=
 ∃ own' a' o',NdO own' K w' a' s' []∧At0 a a'∧Turn (JK K) own own' w w'∧Given own' K w' v o'∧o'.map MsS.m=msgs∧a'.ov=.slice none 0 0
def Mg.ms (m:Mg):Ms:=⟨m.kind,m.frm,m.too,m.boot,m.view,m.last,m.mem,m.pos,[],m.com,m.num,m.clock,m.yes⟩
def Mg.mss (m:Mg):MsS:=⟨m.ms,none,0⟩
theorem Zix (l:List Mg):Z97 l=Z1h Z23 (l.map Mg.mss):=by
 unfold Z97 Z1h
 rw [List.flatMap_map]
 rfl
theorem Zfy (s:Nd) (h3:3≤s.n) (h7:s.n≤7) (h1:1≤s.id) (hn:s.id≤s.n):(Zcc s.id s.boot (Z9q s.id s.n.toNat)).map Mg.ms=s.joins:=by
 obtain⟨id,n,bo,cl,he,kn,L,co,la,me,pe,ps,td,tb,pf,v,de,ag,mi,q,st,ac,a0,as_,bs,jp,dv⟩:=s
 dsimp only at *
 have hi:id=1∨id=2∨id=3∨id=4∨id=5∨id=6∨id=7:=by omega
 rcases (by omega:n=3∨n=4∨n=5∨n=6∨n=7) with rfl | rfl | rfl | rfl | rfl<;>rcases hi with rfl | rfl | rfl | rfl | rfl | rfl | rfl
 all_goals first | rfl | omega
section
variable {own:Nat→Nat} {K:Nat} {w:World} {a:NdAt} {s:Nd} {out:List MsS}
theorem NdO.newO (h:NdO own K w a s out) {w1:World} {v:Value} {l:List Mg} (hb:Below w.heap.size w w1) (hv:ownM w1 w.heap.size v l) :
  ∃ own',NdO own' K (w1.setCell ⟨a.b,33,none⟩ v) { a with ov:=v } s (l.map Mg.mss)∧Turn (JK K) own own' w (w1.setCell ⟨a.b,33,none⟩ v):=by
 have hk:=h.r.k16
 have t:=Turn.extJ (own:=own) (J:=fun o=>o=K) (K+12) (w:=w) (w':=w1.setCell ⟨a.b,33,none⟩ v) (Z06 (.of_below hb) h.r.ob)
 have hlt:=h.lt
 have hs:(w1.setCell ⟨a.b,33,none⟩ v).heap.size=w1.heap.size:=World.size_setCell ..
 rw [hs] at t
 have a0:ownG Z23 w1 w.heap.size 37 v (l.map Mg.mss):=by
  unfold ownG
  rw [← Zix,List.length_map]
  exact hv
 have d0:ownG Z23 (w1.setCell ⟨a.b,33,none⟩ v) w.heap.size 37 v (l.map Mg.mss):=a0.chg Z23 (Z06 (F:=fun k=>k=a.b) (Chg.refl _ _) rfl) fun k hk e=>by have:=(a0.lt Z23 k hk).1;omega
 have e0:ownG Z23 (w1.setCell ⟨a.b,33,none⟩ v) 0 37 v (l.map Mg.mss):=by
  obtain⟨h1,h2⟩:=d0
  refine⟨h1,h2.imp id ?_⟩
  rintro⟨g,b0,c0,e1,e2,e3⟩
  exact⟨g,b0,c0,e1,Nat.zero_le _,e3⟩
 refine⟨_,⟨?_,h.ears,h.r.putO (t.mono fun o e=>.inl e) ⟨e0,fun k hk=>Z20 (by have:=(a0.lt Z23 k hk).1;omega) (a0.lt Z23 k hk).2,fun x hx=>?_⟩⟩,t.mono jkK⟩
 ·rw [Z0d (o:=33) (u:=v) (Z02 h.blk hb)]
  rw [Z79 a s h.ears]
 ·obtain⟨m,_,rfl⟩:=List.mem_map.1 hx
  exact⟨⟨none,0,rfl,Nat.le_refl _,Nat.zero_le _,fun h=>absurd h (Nat.lt_irrefl 0)⟩,fun h=>absurd h (Nat.lt_irrefl 0)⟩
theorem xTick_of {P:(Nat→Nat)→World→Nd→Prop} (hS:SetOk P) (c:Nat) (h:NdO own K w a s []) (hok:Ok c s) (hc:c<1000000000) (hj:s.knows=false→s.v=none) (hP:∀ own1 w1,Turn (JK K) own own1 w w1→P own1 w1 ({ s with clock:=s.clock+1 }.tick0).1)
  (HD:s.decides=true→∀ own1 w1,NdO own1 K w1 a { s with clock:=s.clock+1 } []→Calls Tryz.prog 74 #[Z09 a.b] w1 fun r w'=>r=.returned (.tuple #[])∧Stp own1 K w1 a w' ({ s with clock:=s.clock+1 }.decide_).1 ({ s with clock:=s.clock+1 }.decide_).2)
  (HA:s.in_=true→∀ own1 w1,NdO own1 K w1 a { s with clock:=s.clock+1 } []→Calls Tryz.prog 78 #[Z09 a.b] w1 fun r w'=>r=.returned (.tuple #[])∧Stp own1 K w1 a w' ({ s with clock:=s.clock+1 }.ask).1 ({ s with clock:=s.clock+1 }.ask).2) :
  Calls Tryz.prog 23 #[Z09 a.b] w fun r w'=>∃ v,r=.returned v∧Zfx own K w a w' s.tick.1 s.tick.2 v:=by
 obtain⟨s1,t0⟩:∃ s1,({ s with clock:=s.clock+1 }:Nd)=s1:=⟨_,rfl⟩
 have ht:s.tick=(s1.tick0.1.settle,s1.tick0.2):=by unfold Nd.tick;rw [t0]
 rw [ht]
 rw [t0] at hP HD HA
 have a0:Ok (c+1) s1:=by
  rw [← t0]
  exact { hok with c0:=by have:=hok.c0;show 0≤s.clock+1;omega,c1:=by have:=hok.c1;show s.clock+1≤((c+1:Nat):Int);omega,h1:=by have:=hok.h1;show s.heard≤s.clock+1;omega,q1:=by have:=hok.q1;show s.pf.num≤s.boot*1048576+((c+1:Nat):Int);omega }
 have z1:s.decides=s1.decides:=by rw [← t0];rfl
 have d2:s.in_=s1.in_:=by rw [← t0];rfl
 have g2:s.knows=s1.knows:=by rw [← t0]
 have i2:s.v=s1.v:=by rw [← t0]
 rw [z1] at HD
 rw [d2] at HA
 rw [g2,i2] at hj
 have q4:w.cell? ⟨a.b,4,none⟩=some (.int .i64 s.clock):=h.c 4
 have z4:=h.free 4
 have la:=h.lt
 have m2:=hok.c0
 have n2:=hok.c1
 obtain⟨d0,t1⟩:=h.s4 (s.clock+1)
 rw [t0] at d0
 obtain⟨W1,f1⟩:∃ W1,W1=w.setCell ⟨a.b,4,none⟩ (.int .i64 (s.clock+1)):=⟨_,rfl⟩
 rw [← f1] at d0 t1
 replace t1:=hd_ (t1.mono jkK)
 have c8:W1.cell? ⟨a.b,8,none⟩=some (.bool s1.knows):=d0.c 8
 have k2:=d0.lt
 replace d0:=hd_ d0;replace h:=hd_ h;replace hok:=hd_ hok;replace a0:=hd_ a0;replace t0:=hd_ t0;replace hP:=hd_ hP;replace HD:=hd_ HD;replace HA:=hd_ HA;replace hj:=hd_ hj;clear ht z1 d2 g2 i2
 obtain⟨kn,z0⟩:∃ kn,s1.knows=kn:=⟨_,rfl⟩
 rw [z0] at c8
 obtain⟨R,hR⟩:∃ R,s1.tick0=R:=⟨_,rfl⟩
 rw [hR] at hP
 rw [hR]
 replace hR:=hd_ hR;replace z0:=hd_ z0
 go_enter Tryz.func23,Tryz.ntmps23
 go_upto_region 4 with (fail)
 rw [← f1]
 replace f1:=hd_ f1;clear q4 z4 la
 cases kn
 case false=>
  have f2:=(d0.out.r.jn z0.out a0.out.j0).2
  have c7:W1.cell? ⟨a.b,7,none⟩=some (Z09 a.j):=d0.out.c 7
  go_wp2_with fail
  refine (jAsk_any a.j s1.id s1.n s1.boot s1.jp mg0 false _ f2 a0.out.i1 (by have:=a0.out.n3;omega) a0.out.n7).mono ?_
  rintro r w2 ⟨v2,rfl,p1,r0⟩
  obtain⟨ad2,v1,p2⟩:=p1.rd.len
  subst p2
  have q0:=d0.out.grow r0
  have s2:w2.cell? ⟨a.b,33,none⟩=some a.ov:=(Z00 q0.blk 33).trans (Zai a s1 q0.ears)
  have x2:w2.frozen? ⟨a.b,33,none⟩=false:=q0.free 33
  have r2:=q0.lt
  obtain⟨own3,v0,t3⟩:=d0.out.newO r0 p1
  obtain⟨W3,g1⟩:∃ W3,W3=w2.setCell ⟨a.b,33,none⟩ (.slice ad2 (Zcc s1.id s1.boot (Z9q s1.id s1.n.toNat)).length v1):=⟨_,rfl⟩
  rw [← g1] at v0 t3
  have y1:=hd_ (t1.out.trans t3)
  replace v0:=hd_ v0;clear t3 f2 c7 c8 k2 r0 p1 q0
  have f0:R=(s1,s1.joins):=by
   rw [← hR.out]
   unfold Nd.tick0
   rw [z0.out];rfl
  subst f0;go_upto_region 14 with (fail)
  rw [← g1]
  replace g1:=hd_ g1;clear s2 x2 r2;go_wp2_with fail
  have hD:=Z3m hS v0.out (hP.out _ _ y1.out)
  refine hD.mono ?_
  rintro r w4 ⟨rfl,own4,w0,t4,b2⟩
  have b0:Hid (Zfx own K w a w4 s1.settle s1.joins (.slice ad2 (Zcc s1.id s1.boot (Z9q s1.id s1.n.toNat)).length v1)):=hd_ ⟨own4,_,_,w0,⟨rfl,rfl,rfl,rfl,rfl⟩,y1.out.trans t4,b2,by rw [List.map_map];exact Zfy s1 a0.out.n3 a0.out.n7 a0.out.i1 a0.out.in_,rfl⟩
  clear w0 t4 b2 hD;go_wp2
  go_ret
  exact⟨_,rfl,b0.out⟩
 case true=>
  have q2:=d0.out.r.vt
  have a2:=d0.out.dv
  have c2:W1.cell? ⟨a.b,2,none⟩=some (.pointer (some ⟨a.dk,a.od,none⟩)):=d0.out.c 2
  have r1:W1.cell? ⟨a.b,17,none⟩=some (Z3f a.v):=d0.out.c 17
  have HV:Hid (∀ y,Calls Tryz.prog 60 #[.pointer (some ⟨a.dk,a.od,none⟩)] (Z1c W1 y) fun r w'=>r=.returned (.int .i64 s1.dv)∧∃ z,w'=Z1c W1 z):=hd_ fun y=>Z0o (Z1m _ _ _ _ (Z07 a2 y))
  go_upto_region 6 with (fail)
  go_cut [26] (fun z wx=>z=.bool (match s1.v with | some (u,_)=>u==s1.dv | none=>false)∧Below W1.heap.size W1 wx)
  case first=>
   have u2:=Z07 c2
   have l2:=Z07 r1
   cases l0:s1.v with
   | none=>
     have j1:=d0.out.vnone l0
     rw [j1] at l2
     refine Z08 (by kernel_rfl) (by kernel_rfl) ?_
     repeat (go_big_quiet_step (fail))
     refine wpQuiet_nil ?_
     intro w2 d1
     have r0:=hd_ (Z0e d1)
     clear d1;go_wp2_with fail
     go_meet
     exact⟨by rw [l0],r0.out⟩
   | some ul=>
     obtain⟨u,l⟩:=ul
     obtain⟨vb,j1⟩:=d0.out.vsome l0
     obtain⟨ls,o2,j2⟩:=d0.out.votes l0 j1
     rw [j1] at l2
     have HW:Hid (∀ y,Calls Tryz.prog 71 #[Z09 vb] (Z1c W1 y) fun r w'=>r=.returned (.int .i64 u)∧∃ z,w'=Z1c W1 z):=hd_ fun y=>Z0o (Z53 vb u s1.n ls _ ((j2.grow (Z0s W1 y)).rd))
     refine Z08 (by kernel_rfl) (by kernel_rfl) ?_
     repeat (go_big_quiet_step (first | (go_at_call 60;exact HV.out _) | (go_at_call 71;exact HW.out _)))
     refine wpQuiet_nil ?_
     intro w2 d1
     have r0:=hd_ (Z0e d1)
     clear d1 j2 o2 HW;go_wp2_with fail
     go_meet
     exact⟨by rw [l0],r0.out⟩
  case rest=>
   obtain⟨rfl,r0⟩:=hcut
   rename World=>w2
   have e1:=hd_ (d0.out.grow r0)
   have t2:=hd_ (t1.out.trans (Turn.grow (J:=JK K) r0 d0.out.wf))
   clear q2 a2 c2 r1 HV c8 k2 r0
   obtain⟨vb,b1⟩:∃ vb,(match s1.v with | some (u,_)=>u==s1.dv | none=>false)=vb:=⟨_,rfl⟩
   rw [b1]
   replace b1:=hd_ b1
   have k0:vb=false→R=if s1.decides then s1.decide_ else if s1.late then s1.propose else if s1.in_ then s1.ask else (s1,[]):=by
    intro e
    have e2:=b1.out
    rw [e] at e2
    rw [← hR.out]
    unfold Nd.tick0
    rw [z0.out]
    cases l0:s1.v with
    | none=>rfl
    | some ul=>
      obtain⟨u,l⟩:=ul
      rw [l0] at e2
      show (if u==s1.dv then s1.gather u l else _)=_
      rw [if_neg (by rw [show (u==s1.dv)=false from e2];exact Bool.false_ne_true)]
   cases vb
   case true=>
    obtain⟨u,l,l0,h2⟩:∃ u l,s1.v=some (u,l)∧(u==s1.dv)=true:=by
     have e2:=b1.out
     cases l0:s1.v with
     | none=>rw [l0] at e2;cases e2
     | some ul=>obtain⟨u,l⟩:=ul;rw [l0] at e2;exact⟨u,l,rfl,e2⟩
    have f0:R=s1.gather u l:=by
     rw [← hR.out]
     unfold Nd.tick0
     rw [z0.out,l0]
     show (if u==s1.dv then s1.gather u l else _)=_
     rw [h2];rfl
    replace f0:=hd_ f0;replace l0:=hd_ l0;clear k0 h2;go_wp2_with fail
    refine (Zco (c+1) e1.out a0.out (Nat.zero_le _) (by omega) u l l0.out).mono ?_
    rintro r w3 ⟨rfl,i0⟩
    rw [← f0.out] at i0
    have g0:=i0.after (.refl a) t2.out
    obtain⟨ownz,az,oz,e0,ez,fz,tz⟩:=g0
    have o0:=fz.b
    replace e0:=hd_ e0;replace ez:=hd_ ez;replace fz:=hd_ fz;replace tz:=hd_ tz;clear i0;go_wp2_with fail
    have hD:=Z3m hS e0.out (hP.out _ _ tz.out)
    rw [o0] at hD
    refine hD.mono ?_
    rintro r wz ⟨rfl,ownd,n0,td,p0⟩
    have b0:Hid (Zfx own K w a wz R.1.settle R.2 az.ov):=hd_ ⟨ownd,_,_,n0,fz.out.trans ⟨o0.symm,rfl,rfl,rfl,rfl⟩,tz.out.trans td,p0,ez.out,rfl⟩
    clear n0 td p0 hD;go_wp2
    go_ret
    exact⟨_,rfl,b0.out⟩
   replace k0:=hd_ (k0 rfl)
   obtain⟨dc,y0⟩:∃ dc,s1.decides=dc:=⟨_,rfl⟩
   obtain⟨lt,k1⟩:∃ lt,s1.late=lt:=⟨_,rfl⟩
   obtain⟨ni,a1⟩:∃ ni,s1.in_=ni:=⟨_,rfl⟩
   have x0:=k0.out
   rw [y0,k1,a1] at x0
   replace x0:=hd_ x0;clear k0;go_wp2_with fail
   refine (Z6g e1.out ⟨a0.out.m0,a0.out.m1⟩).mono ?_
   rintro r w3 ⟨rfl,l1⟩
   rw [y0]
   have v0:=hd_ (e1.out.grow l1)
   have t3:=hd_ (t2.out.trans (Turn.grow (J:=JK K) l1 e1.out.wf))
   clear l1
   cases dc
   case true=>
    have f0:R=s1.decide_:=x0.out
    replace f0:=hd_ f0
    have s0:=hd_ (HD.out y0 own w3 v0.out)
    replace y0:=hd_ y0;go_wp2_with fail
    refine s0.out.mono ?_
    rintro r w4 ⟨rfl,i0⟩
    rw [← f0.out] at i0
    have g0:=i0.after (.refl a) t3.out
    obtain⟨ownz,az,oz,e0,ez,fz,tz⟩:=g0
    have o0:=fz.b
    replace e0:=hd_ e0;replace ez:=hd_ ez;replace fz:=hd_ fz;replace tz:=hd_ tz;clear i0;go_wp2_with fail
    have hD:=Z3m hS e0.out (hP.out _ _ tz.out)
    rw [o0] at hD
    refine hD.mono ?_
    rintro r wz ⟨rfl,ownd,n0,td,p0⟩
    have b0:Hid (Zfx own K w a wz R.1.settle R.2 az.ov):=hd_ ⟨ownd,_,_,n0,fz.out.trans ⟨o0.symm,rfl,rfl,rfl,rfl⟩,tz.out.trans td,p0,ez.out,rfl⟩
    clear n0 td p0 hD;go_wp2
    go_ret
    exact⟨_,rfl,b0.out⟩
   replace y0:=hd_ y0;go_wp2_with fail
   refine (Zak own K a s1 [] w3 v0.out (by have:=a0.out.c0;omega) (by have:=a0.out.c1;omega) (by have:=a0.out.h0;omega) (by have:=a0.out.h1;have:=a0.out.c1;omega) (by have:=a0.out.i1;omega) (by have:=a0.out.in_;have:=a0.out.n7;omega)).mono ?_
   rintro r w4 ⟨rfl,n1⟩
   rw [k1]
   have w0:=hd_ (v0.out.grow n1)
   have t4:=hd_ (t3.out.trans (Turn.grow (J:=JK K) n1 v0.out.wf))
   clear n1;replace k1:=hd_ k1
   cases lt
   case true=>
    have f0:R=s1.propose:=x0.out
    replace f0:=hd_ f0;go_wp2_with fail
    refine (Z43 (c+1) w0.out a0.out (Nat.zero_le _)).mono ?_
    rintro r w5 ⟨rfl,i0⟩
    rw [← f0.out] at i0
    have g0:=i0.after (.refl a) t4.out
    obtain⟨ownz,az,oz,e0,ez,fz,tz⟩:=g0
    have o0:=fz.b
    replace e0:=hd_ e0;replace ez:=hd_ ez;replace fz:=hd_ fz;replace tz:=hd_ tz;clear i0;go_wp2_with fail
    have hD:=Z3m hS e0.out (hP.out _ _ tz.out)
    rw [o0] at hD
    refine hD.mono ?_
    rintro r wz ⟨rfl,ownd,n0,td,p0⟩
    have b0:Hid (Zfx own K w a wz R.1.settle R.2 az.ov):=hd_ ⟨ownd,_,_,n0,fz.out.trans ⟨o0.symm,rfl,rfl,rfl,rfl⟩,tz.out.trans td,p0,ez.out,rfl⟩
    clear n0 td p0 hD;go_wp2
    go_ret
    exact⟨_,rfl,b0.out⟩
   go_wp2_with fail
   refine (Z41 own K a s1 [] w4 w0.out ⟨a0.out.m0,a0.out.m1⟩).mono ?_
   rintro r w5 ⟨rfl,o1⟩
   rw [a1]
   have x1:=hd_ (w0.out.grow o1)
   have t5:=hd_ (t4.out.trans (Turn.grow (J:=JK K) o1 w0.out.wf))
   clear o1
   cases ni
   case true=>
    have f0:R=s1.ask:=x0.out
    replace f0:=hd_ f0
    have s0:=hd_ (HA.out a1 own w5 x1.out)
    replace a1:=hd_ a1;go_wp2_with fail
    refine s0.out.mono ?_
    rintro r w6 ⟨rfl,i0⟩
    rw [← f0.out] at i0
    have g0:=i0.after (.refl a) t5.out
    obtain⟨ownz,az,oz,e0,ez,fz,tz⟩:=g0
    have o0:=fz.b
    replace e0:=hd_ e0;replace ez:=hd_ ez;replace fz:=hd_ fz;replace tz:=hd_ tz;clear i0;go_wp2_with fail
    have hD:=Z3m hS e0.out (hP.out _ _ tz.out)
    rw [o0] at hD
    refine hD.mono ?_
    rintro r wz ⟨rfl,ownd,n0,td,p0⟩
    have b0:Hid (Zfx own K w a wz R.1.settle R.2 az.ov):=hd_ ⟨ownd,_,_,n0,fz.out.trans ⟨o0.symm,rfl,rfl,rfl,rfl⟩,tz.out.trans td,p0,ez.out,rfl⟩
    clear n0 td p0 hD;go_wp2
    go_ret
    exact⟨_,rfl,b0.out⟩
   replace a1:=hd_ a1
   have f0:R=(s1,[]):=x0.out
   have i0:Stp own K w5 a w5 R.1 (([]:List MsS).map MsS.m++R.2):=by rw [f0];exact x1.out.same
   have g0:=i0.after (.refl a) t5.out
   obtain⟨ownz,az,oz,e0,ez,fz,tz⟩:=g0
   have o0:=fz.b
   replace e0:=hd_ e0;replace ez:=hd_ ez;replace fz:=hd_ fz;replace tz:=hd_ tz;clear i0;go_wp2_with fail
   have hD:=Z3m hS e0.out (hP.out _ _ tz.out)
   rw [o0] at hD
   refine hD.mono ?_
   rintro r wz ⟨rfl,ownd,n0,td,p0⟩
   have b0:Hid (Zfx own K w a wz R.1.settle R.2 az.ov):=hd_ ⟨ownd,_,_,n0,fz.out.trans ⟨o0.symm,rfl,rfl,rfl,rfl⟩,tz.out.trans td,p0,ez.out,rfl⟩
   clear n0 td p0 hD;go_wp2
   go_ret
   exact⟨_,rfl,b0.out⟩
end
end
section
open Go.RowKit
def dkO (w:World) (dk od:Nat) (cs:Array Value) (T:TypeId) (boot dv:Int):Prop:=
 w.heap[dk]?=some (.cells cs T (0,0))∧cs[od]?=some (.int .i64 boot)∧cs[od+1]?=some (.int .i64 dv)
theorem Zee (own:Nat→Nat) (K dk od:Nat) (cs:Array Value) (DT:TypeId) (id n boot dv:Int) (w:World) (hwf:∀ c,w.heap.size≤c→own c=0) (h16:16≤K) (hod:own dk=1) (hd:dkO w dk od cs DT boot dv)
  (h3:3≤n) (h7:n≤7) (hi1:1≤id) (hin:id≤n) (hb0:0≤boot) (hb1:boot<1099511627776) (hv0:0≤dv) (hv1:dv≤1099511627776) :
  Calls Tryz.prog 40 #[.int .i64 id, .int .i64 n, .pointer (some ⟨dk,od,none⟩)] w fun r w'=>∃ own' a,r=.returned (.tuple #[Z09 a.b, .int .i64 0])∧NdO own' K w' a (Nd.make id n (boot+1) dv) [] ∧
   a.dk=dk∧a.od=od∧a.cs=cs.setIfInBounds od (.int .i64 (boot+1))∧a.T=DT∧a.ov=.slice none 0 0∧Turn (JK K) own own' w w':=by
 obtain⟨l0,v1,t0⟩:=hd
 have d0:w.cell? ⟨dk,od,none⟩=some (.int .i64 boot):=(Z00 l0 od).trans v1
 have dz:w.frozen? ⟨dk,od,none⟩=false:=Z03 l0 od
 have p2:=Z04 l0
 have x1:od+1<cs.size:=(Array.getElem?_eq_some_iff.1 t0).1
 obtain⟨w1,m0⟩:∃ w1,w1=w.setCell ⟨dk,od,none⟩ (.int .i64 (boot+1)):=⟨_,rfl⟩
 have f0:w1.heap[dk]?=some (.cells (cs.setIfInBounds od (.int .i64 (boot+1))) DT (0,0)):=m0 ▸ Z0d l0
 have a1:w1.cell? ⟨dk,od+1,none⟩=some (.int .i64 dv):=by
  rw [Z00 f0,Array.getElem?_setIfInBounds_ne (by omega)];exact t0
 have l1:Chg (fun c=>own c=1) w w1:=m0 ▸ Z06 (Chg.refl _ _) hod
 have hS:=Zfp dk od boot w d0 dz hb0 hb1
 rw [← m0] at hS
 have j2:w1.heap.size=w.heap.size:=by rw [m0];exact World.size_setCell ..
 have o1:Z1y 1 n=1:=by unfold Z1y;rw [if_neg (by omega)];simp
 replace hS:=hd_ hS;replace l1:=hd_ l1;replace f0:=hd_ f0;replace a1:=hd_ a1;replace m0:=hd_ m0;replace l0:=hd_ l0;replace hwf:=hd_ hwf;replace t0:=hd_ t0;clear v1 d0 dz
 have g1:¬ id<1:=by omega
 have g2:¬ id > n:=by omega
 have gb:((boot+1:Int)==0)=false:=by simp;omega
 go_enter Tryz.func40,Tryz.ntmps40
 go_wp2_with fail
 refine (Z0p 1 n _ (by omega) (by omega)).mono ?_
 rintro r wx ⟨rfl,rfl⟩
 rw [o1]
 go_wp2_with fail
 refine hS.out.mono ?_
 rintro r wx ⟨rfl,rfl⟩;clear hS;go_wp2_with fail
 refine (gNew_any id wx hi1 (by omega)).mono ?_
 rintro r w2 ⟨rfl,b1,n0⟩
 have l2:=n0.size
 have lg2:=Z04 b1.1
 replace b1:=hd_ b1;replace n0:=hd_ n0;go_wp2_with fail
 refine (Z1e (.slice none 0 0) [] w2 ⟨none,0,rfl,Nat.le_refl _,Nat.zero_le _,fun h=>by simp at h⟩).mono ?_
 rintro r w3 ⟨lb,rfl,hlb,p1,o0⟩
 have hs3:=o0.size
 replace p1:=hd_ (show lgO w3 (News w2 w3) lb [] from p1)
 replace o0:=hd_ o0;go_wp2_with fail
 refine (Zif id (boot+1) w3 hi1 (by omega) (by omega) (by omega)).mono ?_
 rintro r w4 ⟨rfl,e1,p0⟩
 have hs4:=p0.size
 have lp4:=e1.lt
 replace e1:=hd_ e1;replace p0:=hd_ p0;go_wp2_with fail
 refine (Zig w4).mono ?_
 rintro r w5 ⟨rfl,f1,q0⟩
 have hs5:=q0.size
 have lr5:w4.heap.size<w5.heap.size:=by obtain⟨_,v,h,_⟩:=f1;exact Z04 h
 replace f1:=hd_ f1;replace q0:=hd_ q0;go_wp2_with fail
 refine (tNew_any w5).mono ?_
 rintro r w6 ⟨tq,tb,rfl,w0,htq,htb,r0⟩
 have hs6:=r0.size
 have ltq:=w0.ltq
 have ltb:=w0.ltb
 replace w0:=hd_ w0;replace r0:=hd_ r0
 obtain⟨xb,y0⟩:∃ xb,xb=w6.heap.size:=⟨_,rfl⟩
 have q1:wx.heap.size=w.heap.size:=j2
 obtain⟨W7,j0⟩:∃ W7,W7=w6.alloc (.cells #[.int .i64 id, .int .i64 n, .pointer (some ⟨dk,od,none⟩), .int .i64 (boot+1), .int .i64 0, .int .i64 0,Z09 w.heap.size, .pointer none, .bool (boot+1==1),Z09 lb, .int .i64 0, .int .i64 0, .int .i64 0,Z09 w3.heap.size,Z09 w4.heap.size,Z09 tq, .pointer none, .pointer none, .int .i64 0, .bool false, .bool false, .pointer none, .int .i64 0, .int .i64 0, .int .i64 0, .int .i64 0, .int .i64 0, .int .i64 0, .int .i64 0, .int .i64 0, .int .i64 0, .int .i64 0, .slice none 0 0, .slice none 0 0] 115):=⟨_,rfl⟩
 have z0:Below w6.heap.size w6 W7:=j0 ▸ (Below.refl _ _).alloc (Nat.le_refl _) _
 have s1:W7.heap[xb]?=some (.cells #[.int .i64 id, .int .i64 n, .pointer (some ⟨dk,od,none⟩), .int .i64 (boot+1), .int .i64 0, .int .i64 0,Z09 w.heap.size, .pointer none, .bool (boot+1==1),Z09 lb, .int .i64 0, .int .i64 0, .int .i64 0,Z09 w3.heap.size,Z09 w4.heap.size,Z09 tq, .pointer none, .pointer none, .int .i64 0, .bool false, .bool false, .pointer none, .int .i64 0, .int .i64 0, .int .i64 0, .int .i64 0, .int .i64 0, .int .i64 0, .int .i64 0, .int .i64 0, .int .i64 0, .int .i64 0, .slice none 0 0, .slice none 0 0] 115 (0,0)):=j0 ▸ y0 ▸ Z0a _ _
 have i1:W7.heap.size=w6.heap.size+1:=by rw [j0];exact World.size_alloc ..
 have k1:Below wx.heap.size wx W7:=n0.out.trans ((o0.out.mono l2).trans ((p0.out.mono (by omega)).trans ((q0.out.mono (by omega)).trans ((r0.out.mono (by omega)).trans (z0.mono (by omega))))))
 have n1:W7.cell? ⟨dk,od+1,none⟩=some (.int .i64 dv):=by
  rw [k1.cell (Z0f a1.out)];exact a1.out
 replace n1:=hd_ n1
 have m2:w6.heap.size≤W7.heap.size:=by omega
 replace i1:=hd_ i1;replace z0:=hd_ z0;replace s1:=hd_ s1;replace k1:=hd_ k1;go_upto_region 7 with (fail)
 rw [← j0,← y0]
 replace j0:=hd_ j0;replace y0:=hd_ y0;go_wp2_with fail
 refine (Z1m dk od dv _ n1.out).mono ?_
 rintro r wy ⟨rfl,rfl⟩;go_wp2_with fail
 refine (jNew_ok id n (boot+1) dv W7 h3 h7 hi1 hin (by omega) (by omega) hv0 hv1).mono ?_
 rintro r w8 ⟨rfl,d1,s0⟩
 have hs8:=s0.size
 have lj8:W7.heap.size<w8.heap.size:=Z04 d1
 have x0:=Z02 s1.out s0
 have q7:w8.cell? ⟨xb,7,none⟩=some (.pointer none):=Z00 x0 7
 have z7:=Z03 x0 7
 have lx8:=Z04 x0
 obtain⟨W9,k0⟩:∃ W9,W9=w8.setCell ⟨xb,7,none⟩ (Z09 W7.heap.size):=⟨_,rfl⟩
 have t1:=k0 ▸ Z0d (o:=7) (u:=Z09 W7.heap.size) x0
 have j1:W9.heap.size=w8.heap.size:=by rw [k0];exact World.size_setCell ..
 have m1:Chg (fun k=>k=xb) w8 W9:=k0 ▸ Z06 (Chg.refl _ _) rfl
 replace t1:=hd_ t1
 have n2:w8.heap.size≤W9.heap.size:=by omega
 replace j1:=hd_ j1;replace m1:=hd_ m1;replace d1:=hd_ d1;replace s0:=hd_ s0;go_upto_region 8 with (fail)
 rw [← k0]
 replace k0:=hd_ k0;clear q7 z7 x0
 have hm0 : -9223372036854775808≤(boot+1)*1048576:=by omega
 have hm1:(boot+1)*1048576≤9223372036854775807:=by omega
 go_wp2_with fail
 refine (Zih ((boot+1)*1048576) _).mono ?_
 rintro r w10 ⟨rfl,g0,b0⟩
 have k2:=b0.size
 have q2:W9.heap.size<w10.heap.size:=by obtain⟨_,v,h,_⟩:=g0;exact Z04 h
 have c0:=Z02 t1.out b0
 have s2:w10.cell? ⟨xb,16,none⟩=some (.pointer none):=Z00 c0 16
 have t2:=Z03 c0 16
 have r2:=Z04 c0
 obtain⟨W11,a0⟩:∃ W11,W11=w10.setCell ⟨xb,16,none⟩ (Z09 W9.heap.size):=⟨_,rfl⟩
 have i0:=a0 ▸ Z0d (o:=16) (u:=Z09 W9.heap.size) c0
 have h0:W11.heap.size=w10.heap.size:=by rw [a0];exact World.size_setCell ..
 have e0:Chg (fun k=>k=xb) w10 W11:=a0 ▸ Z06 (Chg.refl _ _) rfl
 replace i0:=hd_ i0
 have r1:w10.heap.size≤W11.heap.size:=by omega
 replace h0:=hd_ h0;replace e0:=hd_ e0;replace g0:=hd_ g0;replace b0:=hd_ b0;go_upto_region 9 with (fail)
 rw [← a0]
 replace a0:=hd_ a0;clear s2 t2 c0;go_wp2
 go_ret2
 have hxv:=y0.out
 have i1:=i1.out
 have j1:=j1.out
 have h0:=h0.out
 have c9:Chg (fun k=>k=xb) W9 W11:=(Chg.of_below b0.out).more e0.out fun i e=>.inl e
 have c8:Chg (fun k=>k=xb) w8 W11:=m1.out.more c9 fun i e=>.inl e
 have c7:Chg (fun k=>k=xb) W7 W11:=(Chg.of_below s0.out).more c8 fun i e=>.inl e
 have c6:Chg (fun k=>k=xb) w6 W11:=(Chg.of_below z0.out).more c7 fun i e=>.inl e
 have c5:Chg (fun k=>k=xb) w5 W11:=(Chg.of_below r0.out).more c6 fun i e=>.inl e
 have c4:Chg (fun k=>k=xb) w4 W11:=(Chg.of_below q0.out).more c5 fun i e=>.inl e
 have c3:Chg (fun k=>k=xb) w3 W11:=(Chg.of_below p0.out).more c4 fun i e=>.inl e
 have c2:Chg (fun k=>k=xb) w2 W11:=(Chg.of_below o0.out).more c3 fun i e=>.inl e
 have c1:Chg (fun k=>k=xb) wx W11:=(Chg.of_below n0.out).more c2 fun i e=>.inl e
 have cW:Chg (fun c=>JK K (own c)) w W11:=(l1.out.mono fun k _ e=>.inl e).more c1 fun i e=>.inr (by have e:i=xb:=e;omega)
 have t:=Turn.cls (J:=JK K) (own:=own) (fun c=>if c<w2.heap.size then K+1 else if c<w3.heap.size then K+3 else if c<w4.heap.size then K+4 else if c<w5.heap.size then K+5 else if c<w6.heap.size then K+6 else if c<W7.heap.size then K else if c<W9.heap.size then K+2 else K+7) cW
 have ov:∀ c,w.heap.size≤c→c<W11.heap.size→clsO own w.heap.size W11.heap.size (fun c=>if c<w2.heap.size then K+1 else if c<w3.heap.size then K+3 else if c<w4.heap.size then K+4 else if c<w5.heap.size then K+5 else if c<w6.heap.size then K+6 else if c<W7.heap.size then K else if c<W9.heap.size then K+2 else K+7) c=if c<w2.heap.size then K+1 else if c<w3.heap.size then K+3 else if c<w4.heap.size then K+4 else if c<w5.heap.size then K+5 else if c<w6.heap.size then K+6 else if c<W7.heap.size then K else if c<W9.heap.size then K+2 else K+7:=fun c h1 h2=>by
  unfold clsO
  rw [if_neg (by omega),if_pos h2]
 have od1:=t.old dk p2
 generalize clsO own w.heap.size W11.heap.size (fun c=>if c<w2.heap.size then K+1 else if c<w3.heap.size then K+3 else if c<w4.heap.size then K+4 else if c<w5.heap.size then K+5 else if c<w6.heap.size then K+6 else if c<W7.heap.size then K else if c<W9.heap.size then K+2 else K+7)=own' at t ov od1
 have b2:lgO W11 (Is own' (K+3)) lb []:=(p1.out.chg c3 fun k e e2=>by have e2:k=xb:=e2;have:=e.2;omega).mono fun k e=>by
  show own' k=K+3
  have h1:=e.1;have h2:=e.2
  rw [ov k (by omega) (by omega),if_neg (by omega),if_pos h2]
 have f2:pnO W11 (Is own' (K+4)) w3.heap.size id (boot+1) 0 []:=(e1.out.chg c4 fun k e e2=>by omega).mono fun k e=>by
  show own' k=K+4
  rw [ov k (by omega) (by omega),if_neg (by omega),if_neg (by omega),if_pos (by omega)]
 have i2:rqO W11 (Is own' (K+5)) w4.heap.size []:=(f1.out.chg c5 fun k e e2=>by omega).mono fun k e=>by
  show own' k=K+5
  rw [ov k (by omega) (by omega),if_neg (by omega),if_neg (by omega),if_neg (by omega),if_pos (by omega)]
 have d2:pfO W11 (Is own' (K+7)) W9.heap.size (.fresh ((boot+1)*1048576)):=(g0.out.chg e0.out fun k e e2=>by omega).mono fun k e=>by
  show own' k=K+7
  rw [ov k (by omega) (by omega),if_neg (by omega),if_neg (by omega),if_neg (by omega),if_neg (by omega),if_neg (by omega),if_neg (by omega),if_neg (by omega)]
 have o2:own' tq=K+6∧own' tb=K+6∧TbO W11 tq tb []:=by
  refine⟨?_,?_,w0.out.chg c6 (by omega) (by omega)⟩
  ·rw [ov tq (by omega) (by omega),if_neg (by omega),if_neg (by omega),if_neg (by omega),if_neg (by omega),if_pos (by omega)]
  ·rw [ov tb (by omega) (by omega),if_neg (by omega),if_neg (by omega),if_neg (by omega),if_neg (by omega),if_pos (by omega)]
 have z1:own' w.heap.size=K+1∧gmO W11 w.heap.size id Z3c:=by
  refine⟨?_,?_⟩
  ·rw [ov _ (by omega) (by omega),if_pos (by omega)]
  ·have:=b1.out.chg c2 (by omega)
   rw [q1] at this
   exact this
 have a2:own' W7.heap.size=K+2∧jnO W11 W7.heap.size id n (boot+1) dv mg0 false:=by
  refine⟨?_,Z0g d1.out c8 (by omega)⟩
  rw [ov _ (by omega) (by omega),if_neg (by omega),if_neg (by omega),if_neg (by omega),if_neg (by omega),if_neg (by omega),if_neg (by omega),if_pos (by omega)]
 have v0:W11.heap[dk]?=some (.cells (cs.setIfInBounds od (.int .i64 (boot+1))) DT (0,0)):=Z0g f0.out c1 (by omega)
 have y1:(cs.setIfInBounds od (Value.int .i64 (boot+1))).setIfInBounds (od+1) (.int .i64 dv)=cs.setIfInBounds od (.int .i64 (boot+1)):=by
  apply Array.ext_getElem?
  intro i
  rw [Array.getElem?_setIfInBounds]
  by_cases hi:od+1=i
  ·subst hi
   rw [if_pos rfl,Array.getElem?_setIfInBounds_ne (by omega),t0.out,if_pos (by rw [Array.size_setIfInBounds];exact x1)]
  ·rw [if_neg hi]
 have oxb:own' xb=K:=by
  rw [ov _ (by omega) (by omega),if_neg (by omega),if_neg (by omega),if_neg (by omega),if_neg (by omega),if_neg (by omega),if_pos (by omega)]
 refine⟨own',⟨xb,dk,od,cs.setIfInBounds od (.int .i64 (boot+1)),DT,w.heap.size,W7.heap.size,lb,w3.heap.size,w4.heap.size,tq,tb,W9.heap.size,none,none, .slice none 0 0, .slice none 0 0⟩,rfl,⟨i0.out,rfl,?_⟩,rfl,rfl,rfl,rfl,rfl,t⟩
 exact⟨t.new,h16,oxb,od1.trans hod,by rw [Array.size_setIfInBounds];exact x1,by rw [v0];show _=some (Obj.cells ((cs.setIfInBounds od (Value.int .i64 (boot+1))).setIfInBounds (od+1) (.int .i64 dv)) DT (0,0));rw [y1],z1,fun _ _=>a2,b2,f2,i2,o2,d2,trivial,trivial,⟨Z12 _ _ _ _,fun k hk=>by cases hk⟩,⟨Z12 _ _ _ _,fun k hk=>(by cases hk),fun x hx=>(by cases hx)⟩⟩
end
end Go.Proofs.YtbonjbokofkafaaGreat
