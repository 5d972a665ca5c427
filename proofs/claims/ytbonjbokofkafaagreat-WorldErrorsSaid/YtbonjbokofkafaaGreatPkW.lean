/- Lemmas of the proof: PkW. -/
import Derived.Test.YtbonjbokofkafaaGreatPkU
import Derived.Test.YtbonjbokofkafaaGreatPkV
import Derived.Test.YtbonjbokofkafaaGreatPkO
import Derived.Test.YtbonjbokofkafaaGreatPkP
import Derived.Laws.LoneSync
import Derived.Test.YtbonjbokofkafaaGreatPkK
import Derived.Test.YtbonjbokofkafaaGreatPkL
import Derived.Test.YtbonjbokofkafaaGreatPkA
namespace Go.Proofs.YtbonjbokofkafaaGreat
set_option linter.unusedVariables false
set_option maxRecDepth 100000
set_option maxHeartbeats 64000000
section
open Go.RowKit
structure KeepX (own own':Nat→Nat) (w w':World):Prop where
 size:w.heap.size≤w'.heap.size
 keep:∀ c,c<w.heap.size→¬ JK 16 (own c)→own' c=own c∧w'.heap[c]?=w.heap[c]?
theorem KeepX.refl (own:Nat→Nat) (w:World):KeepX own own w w:=⟨Nat.le_refl _,fun c _ h=>⟨rfl,rfl⟩⟩
theorem KeepX.trans {o1 o2 o3:Nat→Nat} {a b c:World} (h:KeepX o1 o2 a b) (k:KeepX o2 o3 b c):KeepX o1 o3 a c:=
 ⟨Nat.le_trans h.size k.size,fun x hx ho=>by
  obtain⟨h1,h2⟩:=h.keep x hx ho
  obtain⟨k1,k2⟩:=k.keep x (Nat.lt_of_lt_of_le hx h.size) (by rw [h1];exact ho)
  exact⟨k1.trans h1,k2.trans h2⟩⟩
theorem KeepX.below {own:Nat→Nat} {w w':World} (hb:Below w.heap.size w w'):KeepX own own w w':=⟨hb.size,fun c hc _=>⟨rfl,hb.block c hc⟩⟩
theorem KeepX.pub {own own':Nat→Nat} {w w':World} (h:KeepX own own' w w'):Keeps own own' w w':=
 ⟨h.size,fun c hc ho=>by obtain⟨h1,h2⟩:=h.keep c hc (by rw [ho];exact jk0 (Nat.le_refl _));exact⟨h1.trans ho,h2⟩⟩
theorem KeepX.block {own own':Nat→Nat} {w w':World} (h:KeepX own own' w w') {c:Nat} {o:Obj} (ho:w.heap[c]?=some o) (hn:¬ JK 16 (own c)):w'.heap[c]?=some o:=by
 have hl:c<w.heap.size:=Z04 ho
 rw [(h.keep c hl hn).2];exact ho
structure GX (own:Nat→Nat) (w0 w:World) (b dk:Nat) (c:Nat) (s:Nd):Prop where
 px:PX own w0 w b dk s
 m0:∃ m,w0.cell? ⟨0,0,none⟩=some (.int .i64 m)
 fu:Full c s
section
variable {own own':Nat→Nat} {w0 w w':World} {b dk c:Nat} {s s':Nd} {a a':NdAt}
theorem GX.m (h:GX own w0 w b dk c s):M0 own w:=by
 obtain⟨m,hm⟩:=h.m0
 have hl:=Z0f hm
 exact⟨h.px.low 0 hl,m,by rw [h.px.bel.cell hl];exact hm⟩
theorem GX.up {d:Nat} (h:GX own w0 w b dk c s) (hd:c≤d):GX own w0 w b dk d s:=⟨h.px,h.m0,h.fu.up hd⟩
theorem GX.grow (h:GX own w0 w b dk c s) (hb:Below w.heap.size w w'):GX own w0 w' b dk c s:=⟨(h.px.grow hb).1,h.m0,h.fu⟩
theorem PX.doneX (h:PX own w0 w b dk s) (hN:NdO own 16 w a s []) (hab:a.b=b) (had:a.dk=dk) (hao:a.od=0) (h':NdO own' 16 w' a' s' []) (hov:a'.ov=.slice none 0 0) (e:At0 a a') (t:Turn (JK 16) own own' w w') :
  PX (Z7z own' 16) w0 w' b dk s'∧KeepX own (Z7z own' 16) w w':=by
 refine⟨(h.done hN hab had hao h' hov e t).1,t.chg.size,fun c hc ho=>?_⟩
 have h1:=t.old c hc
 refine⟨(Z1s h1 fun e=>ho ?_),t.chg.block c hc ho⟩
 rw [e];unfold JK;omega
theorem Zjm (h:GX own w0 w b dk c s) (hc:c<400000) :
  Calls Tryz.prog 23 #[Z09 b] w fun r w'=>∃ v own' o,r=.returned v∧GX own' w0 w' b dk (c+3) s.tick.1∧KeepX own own' w w'∧pubM own' w' v o∧o.map MsS.m=s.tick.2:=by
 have hm:=h.m
 obtain⟨hp,m0,hfu⟩:=h
 have hok:=hfu.ok
 have hnv:=hfu.nov
 have hp0:=hp
 obtain⟨a,hN,rfl,rfl,hod,hov⟩:=hp.nd
 refine (Zb3 c hN hm hok (by omega) hnv).mono ?_
 rintro r w' ⟨v,rfl,own',a',o',h1,e1,t1,g1,m1,v1⟩
 obtain⟨p1,k1⟩:=hp0.doneX hN rfl rfl hod h1 v1 e1 t1
 exact⟨v,_,o',rfl,⟨p1,m0,hfu.tick hc⟩,k1,g1.pub,m1⟩
theorem Zjn (h:GX own w0 w b dk c s) (hc:c<400000) (v:Value) (m:Ms) (hb:rdB w v (Z4w m)) (hm:MayM m) :
  Calls Tryz.prog 68 #[Z09 b,v] w fun r w'=>∃ v' own' o,r=.returned v'∧GX own' w0 w' b dk (c+1) (s.hear m).1∧KeepX own own' w w'∧pubM own' w' v' o∧o.map MsS.m=(s.hear m).2:=by
 have hm0:=h.m
 obtain⟨hp,m0,hfu⟩:=h
 have hok:=hfu.ok
 have hnv:=hfu.nov
 have hp0:=hp
 obtain⟨a,hN,rfl,rfl,hod,hov⟩:=hp.nd
 refine (Zb6 c hN hm0 hok (by omega) v m hb hm).mono ?_
 rintro r w' ⟨v',rfl,⟨e,rfl,h1,t1⟩ | ⟨own',a',o',h1,e1,t1,g1,m1,v1⟩⟩
 ·obtain⟨p1,k1⟩:=hp0.doneX hN rfl rfl hod h1 hov (.refl a) t1
  refine⟨_,_,[],rfl,⟨?_,m0,hfu.hear m hm⟩,k1,⟨⟨none,0,rfl,Nat.le_refl _,Nat.zero_le _,fun h=>absurd h (Nat.lt_irrefl 0)⟩,fun k hk=>(by cases hk),fun x hx=>(by cases hx)⟩,by rw [e];rfl⟩
  rw [e];exact p1
 ·obtain⟨p1,k1⟩:=hp0.doneX hN rfl rfl hod h1 v1 e1 t1
  exact⟨v',_,o',rfl,⟨p1,m0,hfu.hear m hm⟩,k1,g1.pub,m1⟩
theorem gxCast (h:GX own w0 w b dk c s) (o l:Int) (d:ByteArray) :
  Calls Tryz.prog 81 #[Z09 b, .int .i64 o, .int .i64 l, .string d] w fun r w'=>∃ own',r=.returned (.int .i64 (s.cast o l d).2)∧GX own' w0 w' b dk c (s.cast o l d).1∧KeepX own own' w w':=by
 obtain⟨hp,m0,hfu⟩:=h
 have hp0:=hp
 obtain⟨a,hN,rfl,rfl,hod,hov⟩:=hp.nd
 refine (Zbe c hN hfu.ok hfu.sq o l d).mono ?_
 rintro r w' ⟨rfl,own',h1,t1⟩
 obtain⟨p1,k1⟩:=hp0.doneX hN rfl rfl hod h1 hov (.refl a) t1
 exact⟨_,rfl,⟨p1,m0,hfu.cast o l d⟩,k1⟩
theorem gxGood (h:GX own w0 w b dk c s) (hc:c<1000000000):Calls Tryz.prog 29 #[Z09 b] w fun r w'=>r=.returned (.bool s.good)∧Below w.heap.size w w':=by
 obtain⟨a,hN,rfl,rfl,hod,hov⟩:=h.px.nd
 have h1:=h.fu.pt.b1;have h2:=h.fu.ok.c1
 exact Zb7 hN ⟨h.fu.ok.m0,h.fu.ok.m1⟩ h.fu.pt.b0 (by omega) h.fu.ok.c0 (by omega)
theorem gxView (h:GX own w0 w b dk c s):Calls Tryz.prog 28 #[Z09 b] w fun r w'=>r=.returned (.tuple #[.int .i64 s.view.1, .int .i64 s.view.2.1, .bool s.view.2.2])∧Below w.heap.size w w':=pxView h.px ⟨h.fu.ok.m0,h.fu.ok.m1⟩
theorem gxTold (h:GX own w0 w b dk c s) (hc:c<1000000):Calls Tryz.prog 32 #[Z09 b] w fun r w'=>∃ v',r=.returned v'∧ownG Z0k w' w.heap.size 136 v' s.td∧Below w.heap.size w w':=pxTold h.px (by have:=h.fu.ok.tdl;omega)
theorem gxLog (h:GX own w0 w b dk c s):Calls Tryz.prog 30 #[Z09 b] w fun r w'=>∃ v',r=.returned v'∧ownE w' w.heap.size 134 v' s.L∧Below w.heap.size w w':=pxLog h.px (by have:=h.fu.ok.lg;omega)
theorem gxCommit (h:GX own w0 w b dk c s):Calls Tryz.prog 31 #[Z09 b] w fun r w'=>r=.returned (.int .i64 s.com)∧w=w':=by
 obtain⟨a,hc,hl⟩:=h.px.cell
 have c10:w.cell? ⟨b,10,none⟩=some (.int .i64 s.com):=hc 10
 clear h hc
 go_enter Tryz.func31,Tryz.ntmps31
 go_wp2
 go_ret
 exact⟨rfl,rfl⟩
theorem gxWaits (h:GX own w0 w b dk c s):Calls Tryz.prog 33 #[Z09 b] w fun r w'=>r=.returned (.int .i64 s.pend.length)∧w=w':=by
 obtain⟨a,hN,rfl,rfl,hod,hov⟩:=h.px.nd
 have c13:w.cell? ⟨a.b,13,none⟩=some (Z09 a.p):=hN.c 13
 have hP:=hd_ (Z7f a.p s.id s.boot s.pseq s.pend _ w hN.r.pn)
 have hl:=hN.lt
 clear h hN
 go_enter Tryz.func33,Tryz.ntmps33
 go_wp2_with fail
 refine hP.out.mono ?_
 rintro r w1 ⟨rfl,rfl⟩
 go_wp2
 go_ret
 exact⟨rfl,rfl⟩
theorem gxTable (h:GX own w0 w b dk c s):Calls Tryz.prog 36 #[Z09 b] w fun r w'=>(∃ q tb,r=.returned (Z09 q)∧TbO w q tb s.tb)∧w=w':=by
 obtain⟨a,hN,rfl,rfl,hod,hov⟩:=h.px.nd
 have c15:w.cell? ⟨a.b,15,none⟩=some (Z09 a.tq):=hN.c 15
 have hT:=hd_ hN.r.tt.2.2
 have hl:=hN.lt
 clear h hN
 go_enter Tryz.func36,Tryz.ntmps36
 go_wp2
 go_ret
 exact⟨⟨_,_,rfl,hT.out⟩,rfl⟩
end
end
section
open Go.RowKit
def ctC (x:Value) (seen lost:Int):Array Value:=#[x, .int .i64 seen, .int .i64 0, .int .i64 lost, .int .i64 0, .int .i64 0, .int .i64 0, .int .i64 0, .int .i64 0, .int .i64 0, .int .i64 0, .int .i64 0, .int .i64 0, .int .i64 0, .int .i64 0, .int .i64 0, .int .i64 0, .int .i64 0]
def ctO (w:World) (cb:Nat) (x:Value) (seen lost:Int):Prop:=w.heap[cb]?=some (.cells (ctC x seen lost) 126 (0,0))
theorem Zer (b:Option Nat) (w:World):Calls Tryz.prog 39 #[Z3f b] w fun r w'=>r=.returned (Z09 w.heap.size)∧w'=w.alloc (.cells (ctC (Z3f b) 0 0) 126):=by
 go_enter Tryz.func39,Tryz.ntmps39
 go_wp2
 go_ret
 exact⟨rfl,rfl⟩
theorem Zbf (cb:Nat) (x:Value) (seen lost:Int) (w:World) (h:ctO w cb x seen lost):Calls Tryz.prog 80 #[Z09 cb] w fun r w'=>r=.returned x∧w=w':=by
 have c0:w.cell? ⟨cb,0,none⟩=some x:=Z00 h 0
 have hl:=Z04 h
 clear h
 go_enter Tryz.func80,Tryz.ntmps80
 go_wp2
 go_ret
 exact⟨rfl,rfl⟩
theorem Zbg (cb:Nat) (w:World):Calls Tryz.prog 144 #[.pointer (some ⟨cb,2,none⟩), .int .i64 1] w fun r w'=>r=.returned (.bool true)∧Below w.heap.size w w':=by
 go_enter Tryz.func144,Tryz.ntmps144
 go_wp2
 go_ret
 exact⟨rfl,Below.refl _ _⟩
theorem Zjo (cb:Nat) (x:Value) (seen lost:Int) (w:World) (h:ctO w cb x seen lost) (h0:0≤lost) (h1:lost≤1099511627776) :
  Calls Tryz.prog 145 #[.pointer (some ⟨cb,3,none⟩), .int .i64 1] w fun r w'=>r=.returned (.int .i64 (lost+1))∧w'=w.setCell ⟨cb,3,none⟩ (.int .i64 (lost+1)):=by
 have c3:w.cell? ⟨cb,3,none⟩=some (.int .i64 lost):=Z00 h 3
 have z3:=Z03 h 3
 have hl:=Z04 h
 have hw:IntKind.i64.wrap (lost+1)=lost+1:=by rw [IntKind.wrap_i64];omega
 have hadd:=run_call_add (P:=Tryz.prog) Tryz.func188 (by kernel_rfl) (by kernel_rfl) (by kernel_rfl) .i64 (by kernel_rfl) (y:=1) (s:=lost+1) c3 z3 (by simp [go_sem,hw])
 clear h
 go_enter Tryz.func145,Tryz.ntmps145
 go_wp2
 go_ret
 exact⟨rfl,rfl⟩
theorem Zgi (cb:Nat) (x:Value) (seen lost:Int) (w:World) (h:ctO w cb x seen lost) :
  Calls Tryz.prog 150 #[.pointer (some ⟨cb,3,none⟩)] w fun r w'=>r=.returned (.int .i64 lost)∧w=w':=by
 have c3:w.cell? ⟨cb,3,none⟩=some (.int .i64 lost):=Z00 h 3
 have hl:=Z04 h
 have hload:=run_call_load (P:=Tryz.prog) Tryz.func189 (by kernel_rfl) (by kernel_rfl) (by kernel_rfl) .i64 (by kernel_rfl) (w:=w) c3
 clear h
 go_enter Tryz.func150,Tryz.ntmps150
 go_wp2
 go_ret
 exact⟨rfl,rfl⟩
theorem Zbh (cb:Nat) (x:Value) (seen lost:Int) (w:World) (h:ctO w cb x seen lost) (h0:0≤lost) (h1:lost≤1099511627776) :
  Calls Tryz.prog 82 #[.pointer (some ⟨cb,2,none⟩), .int .i64 1] w fun r w'=>r=.returned (.int .i64 (lost+1))∧∃ w1,Below w.heap.size w w1∧w'=w1.setCell ⟨cb,3,none⟩ (.int .i64 (lost+1)):=by
 have hH:=hd_ (Zbg cb w)
 replace h:=hd_ h
 go_enter Tryz.func82,Tryz.ntmps82
 go_wp2_with fail
 refine hH.out.mono ?_
 rintro r w1 ⟨rfl,hb1⟩
 have hA:=hd_ (Zjo cb x seen lost w1 (Z02 h.out hb1) h0 h1)
 have hl:=Z04 (Z02 h.out hb1)
 replace hb1:=hd_ hb1
 go_wp2_with fail
 refine hA.out.mono ?_
 rintro r w2 ⟨rfl,rfl⟩
 go_wp2
 go_ret
 exact⟨rfl,_,hb1.out,rfl⟩
theorem Zjp (cb:Nat) (x:Value) (seen lost:Int) (w:World) (h:ctO w cb x seen lost) :
  Calls Tryz.prog 87 #[.pointer (some ⟨cb,2,none⟩), .int .i64 1] w fun r w'=>r=.returned (.int .i64 lost)∧Below w.heap.size w w':=by
 have hH:=hd_ (Zbg cb w)
 replace h:=hd_ h
 go_enter Tryz.func87,Tryz.ntmps87
 go_wp2_with fail
 refine hH.out.mono ?_
 rintro r w1 ⟨rfl,hb1⟩
 have hA:=hd_ (Zgi cb x seen lost w1 (Z02 h.out hb1))
 have hl:=Z04 (Z02 h.out hb1)
 replace hb1:=hd_ hb1
 go_wp2_with fail
 refine hA.out.mono ?_
 rintro r w2 ⟨rfl,rfl⟩
 go_wp2
 go_ret
 exact⟨rfl,hb1.out⟩
theorem Zjq (cb:Nat) (x:Value) (seen lost:Int) (w:World) (h:ctO w cb x seen lost) :
  Calls Tryz.prog 34 #[Z09 cb] w fun r w'=>r=.returned (.int .i64 lost)∧Below w.heap.size w w':=by
 have hH:=hd_ (Zjp cb x seen lost w h)
 have hl:=Z04 h
 replace h:=hd_ h
 go_enter Tryz.func34,Tryz.ntmps34
 go_wp2_with fail
 refine hH.out.mono ?_
 rintro r w1 ⟨rfl,hb1⟩
 replace hb1:=hd_ hb1
 go_wp2
 go_ret
 exact⟨rfl,hb1.out⟩
structure KeepC (cb:Nat) (own own':Nat→Nat) (w w':World):Prop where
 size:w.heap.size≤w'.heap.size
 keep:∀ c,c<w.heap.size→¬ JK 16 (own c)→own' c=own c∧(c≠cb→w'.heap[c]?=w.heap[c]?)
theorem KeepX.c {own own':Nat→Nat} {w w':World} (h:KeepX own own' w w') (cb:Nat):KeepC cb own own' w w':=⟨h.size,fun c hc hn=>⟨(h.keep c hc hn).1,fun _=>(h.keep c hc hn).2⟩⟩
theorem KeepC.trans {cb:Nat} {o1 o2 o3:Nat→Nat} {a b c:World} (h:KeepC cb o1 o2 a b) (k:KeepC cb o2 o3 b c):KeepC cb o1 o3 a c:=
 ⟨Nat.le_trans h.size k.size,fun x hx ho=>by
  obtain⟨h1,h2⟩:=h.keep x hx ho
  obtain⟨k1,k2⟩:=k.keep x (Nat.lt_of_lt_of_le hx h.size) (by rw [h1];exact ho)
  exact⟨k1.trans h1,fun hn=>(k2 hn).trans (h2 hn)⟩⟩
structure CX (own:Nat→Nat) (w:World) (cb b:Nat) (seen lost:Int):Prop where
 ow:own cb=2
 o:ctO w cb (Z09 b) seen lost
theorem jk2:¬ JK 16 2:=by unfold JK;omega
section
variable {own own':Nat→Nat} {w0 w w':World} {b dk c cb:Nat} {s s':Nd} {seen lost:Int}
theorem CX.keep (h:CX own w cb b seen lost) (k:KeepX own own' w w'):CX own' w' cb b seen lost:=
 ⟨((k.keep cb (Z04 h.o) (by rw [h.ow];exact jk2)).1).trans h.ow,k.block h.o (by rw [h.ow];exact jk2)⟩
theorem CX.keepC {cd:Nat} (h:CX own w cb b seen lost) (k:KeepC cd own own' w w') (hne:cb≠cd):CX own' w' cb b seen lost:=by
 obtain⟨h1,h2⟩:=k.keep cb (Z04 h.o) (by rw [h.ow];exact jk2)
 exact⟨h1.trans h.ow,by unfold ctO;rw [h2 hne];exact h.o⟩
theorem CX.grow (h:CX own w cb b seen lost) (hb:Below w.heap.size w w'):CX own w' cb b seen lost:=h.keep (.below hb)
theorem GX.set2 (h:GX own w0 w b dk c s) (ho:own cb=2) (o:Nat) (v:Value):GX own w0 (w.setCell ⟨cb,o,none⟩ v) b dk c s:=by
 obtain⟨⟨hlow,hbel,a,hN,e1,e2,e3,e4⟩,m0,fu⟩:=h
 have hcb:w0.heap.size≤cb:=Nat.le_of_not_lt fun hc=>by have:=hlow cb hc;omega
 have hN2:NdO own 16 (w.setCell ⟨cb,o,none⟩ v) a s []:=by
  have t:Turn (fun i=>i=2) own own w (w.setCell ⟨cb,o,none⟩ v):=.same (Z06 (Chg.refl _ _) ho) hN.wf
  exact⟨t.pub hN.blk (by rw [hN.r.ob];omega),hN.ears,hN.r.turn t (by omega) (by omega) (fun i hi=>by omega)⟩
 exact⟨⟨hlow,hbel.setCell hcb _,a,hN2,e1,e2,e3,e4⟩,m0,fu⟩
theorem CX.set (h:CX own w cb b seen lost) {o:Nat} {v:Value} {seen' lost':Int} (e:(ctC (Z09 b) seen lost).setIfInBounds o v=ctC (Z09 b) seen' lost'):CX own (w.setCell ⟨cb,o,none⟩ v) cb b seen' lost':=
 ⟨h.ow,by unfold ctO;rw [← e];exact Z0d h.o⟩
theorem Zbi (own:Nat→Nat) (w:World) (cb o:Nat) (v:Value):KeepC cb own own w (w.setCell ⟨cb,o,none⟩ v):=⟨by rw [World.size_setCell];exact Nat.le_refl _,fun x hx hn=>⟨rfl,fun hne=>Z0u rfl hne⟩⟩
def labO (own:Nat→Nat) (cb j:Nat):Nat→Nat:=fun x=>if x=cb then j else own x
theorem Zdh (own:Nat→Nat) (cb j:Nat):labO own cb j cb=j:=if_pos rfl
theorem Z45 {own:Nat→Nat} {cb j x:Nat} (h:x≠cb):labO own cb j x=own x:=if_neg h
theorem NdR.relab {K:Nat} {a:NdAt} (h:NdR own K w a s []) (ho:a.ov=.slice none 0 0) (wf':∀ c,w.heap.size≤c→own' c=0) (hK:∀ c,own c=1∨(K≤own c∧own c≤K+12)→own' c=own c):NdR own' K w a s []:=by
 have hk:=h.k16
 have eq:∀ {c j:Nat},own c=j→(j=1∨(K≤j∧j≤K+12))→own' c=j:=fun e hj=>(hK _ (by rw [e];exact hj)).trans e
 have is:∀ {j:Nat},(j=1∨(K≤j∧j≤K+12))→∀ k,Is own j k→Is own' j k:=fun hj k hk=>eq hk hj
 refine⟨wf',hk,eq h.ob (by omega),eq h.odk (by omega),h.dsz,h.dsk,⟨eq h.gm.1 (by omega),h.gm.2⟩,fun e e2=>⟨eq (h.jn e e2).1 (by omega),(h.jn e e2).2⟩,
  h.lg.mono (is (by omega)),h.pn.mono (is (by omega)),h.rq.mono (is (by omega)),⟨eq h.tt.1 (by omega),eq h.tt.2.1 (by omega),h.tt.2.2⟩,h.pf.mono (is (by omega)),?_,?_,⟨h.ask.1,fun k hk'=>eq (h.ask.2 k hk') (by omega)⟩,?_⟩
 ·have hv:=h.vt
  match hs:s.v,ha:a.v with
  | none,none=>trivial
  | some (u,l),some vb=>
    rw [hs,ha] at hv
    obtain⟨ls,e,hv⟩:=hv
    refine⟨ls,e,hv.monoF (is (by omega)) (is (by omega)) fun k h1 h2=>?_⟩
    have h1:own' k=K+8:=h1
    have h2:own' k=K+9:=h2
    omega
  | none,some _=>rw [hs,ha] at hv;exact hv.elim
  | some (_,_),none=>rw [hs,ha] at hv;exact hv.elim
 ·have hq:=h.qm
  match hs:s.q,ha:a.qb with
  | none,none=>trivial
  | some q,some qb=>rw [hs,ha] at hq;exact⟨eq hq.1 (by omega),hq.2⟩
  | none,some _=>rw [hs,ha] at hq;exact hq.elim
  | some _,none=>rw [hs,ha] at hq;exact hq.elim
 ·rw [ho]
  exact⟨Z12 _ _ _ _,fun k hk=>(by cases hk),fun x hx=>(by cases hx)⟩
theorem GX.lab (h:GX own w0 w b dk c s) {g j:Nat} (hg:own g=0) (h0:w0.heap.size≤g) (hl:g<w.heap.size) (hj:¬ JK 16 j):GX (labO own g j) w0 w b dk c s:=by
 obtain⟨⟨hlow,hbel,a,hN,e1,e2,e3,e4⟩,m0,fu⟩:=h
 refine⟨⟨fun x hx=>(Z45 (by omega)).trans (hlow x hx),hbel,a,⟨hN.blk,hN.ears,hN.r.relab e4 (fun x hx=>(Z45 (by omega)).trans (hN.wf x hx)) fun x hx=>Z45 fun e=>?_⟩,e1,e2,e3,e4⟩,m0,fu⟩
 rw [e,hg] at hx
 omega
theorem gxClient (h:GX own w0 w b dk c s):Calls Tryz.prog 39 #[Z09 b] w fun r w'=>∃ own' cb,r=.returned (Z09 cb)∧GX own' w0 w' b dk c s∧CX own' w' cb b 0 0∧KeepX own own' w w'∧w.heap.size≤cb:=by
 refine (Zer (some b) w).mono ?_
 rintro r w' ⟨rfl,rfl⟩
 have hB:Below w.heap.size w (w.alloc (.cells (ctC (Z09 b) 0 0) 126)):=(Below.refl _ _).alloc (Nat.le_refl _) _
 have hg:=(h.grow hB)
 have hw:own w.heap.size=0:=h.px.wf _ (Nat.le_refl _)
 have h1:=hg.lab (g:=w.heap.size) (j:=2) hw h.px.bel.size (by simp) jk2
 exact⟨_,_,rfl,h1,⟨Zdh _ _ _,Z0a _ _⟩,⟨hB.size,fun x hx _=>⟨Z45 (by omega),hB.block x hx⟩⟩,Nat.le_refl _⟩
theorem Zdi (h:CX own w cb b seen lost):Calls Tryz.prog 80 #[Z09 cb] w fun r w'=>r=.returned (Z09 b)∧w=w':=Zbf cb _ _ _ w h.o
theorem cxLost (h:CX own w cb b seen lost):Calls Tryz.prog 34 #[Z09 cb] w fun r w'=>r=.returned (.int .i64 lost)∧Below w.heap.size w w':=Zjq cb _ _ _ w h.o
theorem cxCast (h:GX own w0 w b dk c s) (hc:CX own w cb b seen lost) (h0:0≤lost) (h1:lost≤1000000) (o l:Int) (d:ByteArray) :
  Calls Tryz.prog 25 #[Z09 cb, .int .i64 o, .int .i64 l, .string d] w fun r w'=>∃ own',r=.returned (.int .i64 (s.cast o l d).2)∧GX own' w0 w' b dk c (s.cast o l d).1∧CX own' w' cb b seen (if (s.cast o l d).2=0 then lost else lost+1)∧KeepC cb own own' w w':=by
 have hN:=hd_ (Zdi hc)
 have hC:=hd_ (gxCast h o l d)
 obtain⟨er,her⟩:∃ er,er=(s.cast o l d).2:=⟨_,rfl⟩
 obtain⟨S,hS⟩:∃ S,S=(s.cast o l d).1:=⟨_,rfl⟩
 obtain⟨ls,hls⟩:∃ ls,ls=if er=0 then lost else lost+1:=⟨_,rfl⟩
 rw [← her,← hS] at hC ⊢
 rw [← hls]
 have hl:=Z04 hc.o
 replace h:=hd_ h
 replace hc:=hd_ hc
 replace her:=hd_ her
 replace hS:=hd_ hS
 replace hls:=hd_ hls
 go_enter Tryz.func25,Tryz.ntmps25
 go_wp2_with fail
 refine hN.out.mono ?_
 rintro r wx ⟨rfl,rfl⟩
 go_wp2_with fail
 refine hC.out.mono ?_
 rintro r w1 ⟨own1,rfl,g1,k1⟩
 have c1:=hc.out.keep k1
 have l1:=Z04 c1.o
 clear hN hC hl
 by_cases he:er=0
 ·have hb:(er != 0)=false:=by simp [he]
  have e1:ls=lost:=by rw [hls.out,if_pos he]
  replace he:=hd_ he
  replace e1:=hd_ e1
  replace g1:=hd_ g1
  replace c1:=hd_ c1
  replace k1:=hd_ k1
  go_wp2
  go_ret
  exact⟨own1,rfl,g1.out,by rw [e1.out];exact c1.out,k1.out.c cb⟩
 ·have hb:(er != 0)=true:=by simp [he]
  have e1:ls=lost+1:=by rw [hls.out,if_neg he]
  have hT:=hd_ (Zbh cb _ seen lost w1 c1.o h0 (by omega))
  replace he:=hd_ he
  replace e1:=hd_ e1
  replace g1:=hd_ g1
  replace c1:=hd_ c1
  replace k1:=hd_ k1
  go_wp2_with fail
  refine hT.out.mono ?_
  rintro r w2 ⟨rfl,w3,hb3,rfl⟩
  have g3:=hd_ ((g1.out.grow hb3).set2 c1.out.ow 3 (.int .i64 (lost+1)))
  have c3:=hd_ ((c1.out.grow hb3).set (o:=3) (v:=.int .i64 (lost+1)) (seen':=seen) (lost':=lost+1) rfl)
  have k3:=hd_ (((k1.out.trans (.below hb3)).c cb).trans (Zbi own1 w3 cb 3 (.int .i64 (lost+1))))
  replace hb3:=hd_ hb3
  clear hT
  go_wp2
  go_ret
  exact⟨own1,rfl,g3.out,by rw [e1.out];exact c3.out,k3.out⟩
end
end
section
open Go.RowKit
def stV (s:Nd):Value:=.agg #[.bool true, .bool s.view.2.2, .bool s.good, .int .i64 s.view.1, .int .i64 s.L.length, .int .i64 s.com, .int .i64 s.td.length, .int .i64 s.pend.length]
def Nd.get (s:Nd) (a:ByteArray):ByteArray × Int:=if !s.in_ then (⟨#[]⟩,6) else if !s.good then (⟨#[]⟩,7) else if !(Zhr s.tb a).2 then (⟨#[]⟩,8) else ((Zhr s.tb a).1,0)
theorem Zjr (s:Nd):s.view.2.2=s.in_:=by unfold Nd.view;split<;>simp [*]
section
variable {own own':Nat→Nat} {w0 w w':World} {b dk c cb:Nat} {s s':Nd} {seen lost:Int}
theorem Zes (h:GX own w0 w b dk c s) (hc:CX own w cb b seen lost) (hcc:c<400000) :
  Calls Tryz.prog 27 #[Z09 cb] w fun r w'=>r=.returned (stV s)∧Below w.heap.size w w':=by
 obtain⟨v1,v2,v3,hv⟩:∃ v1 v2 v3,s.view=(v1,v2,v3):=⟨_,_,_,rfl⟩
 obtain⟨gd,hgd⟩:∃ g,g=s.good:=⟨_,rfl⟩
 obtain⟨nL,hnL⟩:∃ g,g=s.L.length:=⟨_,rfl⟩
 obtain⟨nT,hnT⟩:∃ g,g=s.td.length:=⟨_,rfl⟩
 obtain⟨nP,hnP⟩:∃ g,g=s.pend.length:=⟨_,rfl⟩
 obtain⟨cm,hcm⟩:∃ g,g=s.com:=⟨_,rfl⟩
 have est:stV s=.agg #[.bool true, .bool v3, .bool gd, .int .i64 v1, .int .i64 nL, .int .i64 cm, .int .i64 nT, .int .i64 nP]:=by unfold stV;rw [hv,hgd,hnL,hnT,hnP,hcm]
 rw [est]
 obtain⟨W0,hW0⟩:∃ W,W=w.alloc (.cells #[.bool false, .bool false, .bool false, .int .i64 0, .int .i64 0, .int .i64 0, .int .i64 0, .int .i64 0] 47):=⟨_,rfl⟩
 have hB0:Below w.heap.size w W0:=hW0 ▸ (Below.refl _ _).alloc (Nat.le_refl _) _
 obtain⟨rb,hrb⟩:∃ rb,rb=w.heap.size:=⟨_,rfl⟩
 have hr0:W0.heap[rb]?=some (.cells #[.bool false, .bool false, .bool false, .int .i64 0, .int .i64 0, .int .i64 0, .int .i64 0, .int .i64 0] 47 (0,0)):=hW0 ▸ hrb ▸ Z0a _ _
 have h0:=h.grow hB0
 have hc0:=hc.grow hB0
 have hN:=hd_ (Zdi hc0)
 have hV:=gxView h0
 rw [hv] at hV
 replace hV:=hd_ hV
 replace est:=hd_ est
 replace hv:=hd_ hv
 replace h:=hd_ h
 replace hc:=hd_ hc
 replace h0:=hd_ h0
 replace hc0:=hd_ hc0
 replace hB0:=hd_ hB0
 replace hr0:=hd_ hr0
 replace hgd:=hd_ hgd
 replace hnL:=hd_ hnL
 replace hnT:=hd_ hnT
 replace hnP:=hd_ hnP
 replace hcm:=hd_ hcm
 go_enter Tryz.func27,Tryz.ntmps27
 go_upto_region 1 with (fail)
 rw [← hW0,← hrb]
 replace hW0:=hd_ hW0
 replace hrb:=hd_ hrb
 go_wp2_with fail
 refine hN.out.mono ?_
 rintro r wx ⟨rfl,rfl⟩
 go_wp2_with fail
 refine hV.out.mono ?_
 rintro r w1 ⟨rfl,hb1⟩
 have g1:=h0.out.grow hb1
 have hr1:=hd_ (Z02 hr0.out hb1)
 have hB1:=hd_ (hB0.out.trans (hb1.mono hB0.out.size))
 have hG:=gxGood g1 (by omega)
 rw [← hgd.out] at hG
 replace hG:=hd_ hG
 replace g1:=hd_ g1
 clear hb1 hV hN
 dsimp only
 go_wp2_with fail
 refine hG.out.mono ?_
 rintro r w2 ⟨rfl,hb2⟩
 have g2:=g1.out.grow hb2
 have hr2:=hd_ (Z02 hr1.out hb2)
 have hB2:=hd_ (hB1.out.trans (hb2.mono hB1.out.size))
 have hL:=hd_ (gxLog g2)
 replace g2:=hd_ g2
 clear hb2 hG
 go_wp2_with fail
 refine hL.out.mono ?_
 rintro r w3 ⟨v3',rfl,ho3,hb3⟩
 obtain⟨a3,c3,rfl⟩:=ho3.rd.len
 rw [← hnL.out]
 have g3:=g2.out.grow hb3
 have hr3:=hd_ (Z02 hr2.out hb3)
 have hB3:=hd_ (hB2.out.trans (hb3.mono hB2.out.size))
 have hC:=gxCommit g3
 rw [← hcm.out] at hC
 replace hC:=hd_ hC
 have hT:=hd_ (gxTold g3 (by omega))
 replace g3:=hd_ g3
 clear hb3 hL ho3
 go_wp2_with fail
 refine hC.out.mono ?_
 rintro r wx ⟨rfl,rfl⟩
 go_wp2_with fail
 refine hT.out.mono ?_
 rintro r w4 ⟨v4',rfl,ho4,hb4⟩
 obtain⟨a4,c4,rfl⟩:=(ho4.rd Z0k).len
 rw [← hnT.out]
 have g4:=g3.out.grow hb4
 have hr4:=Z02 hr3.out hb4
 have hB4:=hd_ (hB3.out.trans (hb4.mono hB3.out.size))
 have hP:=gxWaits g4
 rw [← hnP.out] at hP
 replace hP:=hd_ hP
 replace g4:=hd_ g4
 clear hb4 hC hT ho4
 have y0:=Z03 hr4 0
 have y1:=Z03 hr4 1
 have y2:=Z03 hr4 2
 have y3:=Z03 hr4 3
 have y4:=Z03 hr4 4
 have y5:=Z03 hr4 5
 have y6:=Z03 hr4 6
 have y7:=Z03 hr4 7
 have z0:=Z00 hr4 0
 have z1:=Z00 hr4 1
 have z2:=Z00 hr4 2
 have z3:=Z00 hr4 3
 have z4:=Z00 hr4 4
 have z5:=Z00 hr4 5
 have z6:=Z00 hr4 6
 have z7:=Z00 hr4 7
 have lr4:=Z04 hr4
 replace hr4:=hd_ hr4
 go_wp2_with fail
 refine hP.out.mono ?_
 rintro r wx ⟨rfl,rfl⟩
 go_wp2
 refine bodyPost_ret (v:=.agg #[.bool true, .bool v3, .bool gd, .int .i64 v1, .int .i64 nL, .int .i64 cm, .int .i64 nT, .int .i64 nP]) (by simp [results,Tryz.results27,go_sem, *]) rfl ?_
 refine⟨rfl,?_⟩
 have hz:w.heap.size≤rb:=Nat.le_of_eq hrb.out.symm
 exact Z0x (Z0x (Z0x (Z0x (Z0x (Z0x (Z0x (Z0x hB4.out hz 0 _) hz 1 _) hz 2 _) hz 3 _) hz 4 _) hz 5 _) hz 6 _) hz 7 _
theorem cxGet (h:GX own w0 w b dk c s) (hc:CX own w cb b seen lost) (hcc:c<400000) (a:ByteArray) (ha:a.size≤1000) :
  Calls Tryz.prog 35 #[Z09 cb, .string a] w fun r w'=>r=.returned (.tuple #[.string (s.get a).1, .int .i64 (s.get a).2])∧Below w.heap.size w w':=by
 have hS:=Zes h hc hcc
 obtain⟨i,hi⟩:∃ i,i=s.in_:=⟨_,rfl⟩
 obtain⟨g,hg⟩:∃ i,i=s.good:=⟨_,rfl⟩
 obtain⟨gv,gf,hgt⟩:∃ x y,Zhr s.tb a=(x,y):=⟨_,_,rfl⟩
 have hget:s.get a=if !i then (⟨#[]⟩,6) else if !g then (⟨#[]⟩,7) else if !gf then (⟨#[]⟩,8) else (gv,0):=by unfold Nd.get;rw [← hi,← hg,hgt]
 unfold stV at hS
 rw [Zjr,← hi,← hg] at hS
 generalize s.view.1=x3 at hS
 generalize (s.L.length:Int)=x4 at hS
 generalize s.com=x5 at hS
 generalize (s.td.length:Int)=x6 at hS
 generalize (s.pend.length:Int)=x7 at hS
 obtain⟨r1,hr1⟩:∃ x,x=(s.get a).1:=⟨_,rfl⟩
 obtain⟨r2,hr2⟩:∃ x,x=(s.get a).2:=⟨_,rfl⟩
 rw [← hr1,← hr2]
 rw [hget] at hr1 hr2
 replace hS:=hd_ hS
 replace h:=hd_ h
 replace hc:=hd_ hc
 replace hget:=hd_ hget
 replace hi:=hd_ hi
 replace hg:=hd_ hg
 replace hgt:=hd_ hgt
 replace hr1:=hd_ hr1
 replace hr2:=hd_ hr2
 go_enter Tryz.func35,Tryz.ntmps35
 go_wp2_with fail
 refine hS.out.mono ?_
 rintro r w1 ⟨rfl,hb1⟩
 obtain⟨W2,hW2⟩:∃ W,W=w1.alloc (.cells #[.bool true, .bool i, .bool g, .int .i64 x3, .int .i64 x4, .int .i64 x5, .int .i64 x6, .int .i64 x7] 47):=⟨_,rfl⟩
 have hB2:Below w1.heap.size w1 W2:=hW2 ▸ (Below.refl _ _).alloc (Nat.le_refl _) _
 obtain⟨xb,hxb⟩:∃ xb,xb=w1.heap.size:=⟨_,rfl⟩
 have hx2:W2.heap[xb]?=some (.cells #[.bool true, .bool i, .bool g, .int .i64 x3, .int .i64 x4, .int .i64 x5, .int .i64 x6, .int .i64 x7] 47 (0,0)):=hW2 ▸ hxb ▸ Z0a _ _
 have hBB:=hb1.trans (hB2.mono hb1.size)
 have z0:=Z00 hx2 0
 have z1:=Z00 hx2 1
 have z2:=Z00 hx2 2
 have lx:=Z04 hx2
 have gg:=h.out.grow hBB
 have cc:=hc.out.grow hBB
 have c0:W2.cell? ⟨cb,0,none⟩=some (Z09 b):=Z00 cc.o 0
 have lc:=Z04 cc.o
 have hT:=hd_ (gxTable gg)
 replace gg:=hd_ gg
 replace cc:=hd_ cc
 replace hx2:=hd_ hx2
 replace hBB:=hd_ hBB
 replace hB2:=hd_ hB2
 replace hb1:=hd_ hb1
 clear hS
 go_upto_region 2 with (fail)
 rw [← hW2,← hxb]
 replace hW2:=hd_ hW2
 replace hxb:=hd_ hxb
 cases i
 ·go_wp2
  refine bodyPost_ret (v:=.tuple #[.string ⟨#[]⟩, .int .i64 6]) (by simp [results,Tryz.results35,go_sem]) rfl ?_
  exact⟨by rw [hr1.out,hr2.out];rfl,hBB.out⟩
 ·cases g
  ·go_wp2
   refine bodyPost_ret (v:=.tuple #[.string ⟨#[]⟩, .int .i64 7]) (by simp [results,Tryz.results35,go_sem]) rfl ?_
   exact⟨by rw [hr1.out,hr2.out];rfl,hBB.out⟩
  ·go_wp2_with fail
   refine hT.out.mono ?_
   rintro r w3 ⟨⟨q,tb,rfl,hTb⟩,rfl⟩
   have hG:=tGet_any q tb s.tb a W2 hTb ha
   rw [hgt.out] at hG
   replace hG:=hd_ hG
   clear hTb hT
   go_wp2_with fail
   refine hG.out.mono ?_
   rintro r w4 ⟨rfl,rfl⟩
   dsimp only
   cases gf
   ·go_wp2
    refine bodyPost_ret (v:=.tuple #[.string ⟨#[]⟩, .int .i64 8]) (by simp [results,Tryz.results35,go_sem]) rfl ?_
    exact⟨by rw [hr1.out,hr2.out];rfl,hBB.out⟩
   ·go_wp2
    refine bodyPost_ret (v:=.tuple #[.string gv, .int .i64 0]) (by simp [results,Tryz.results35,go_sem]) rfl ?_
    exact⟨by rw [hr1.out,hr2.out];rfl,hBB.out⟩
theorem cxPoll {k:Nat} (h:GX own w0 w b dk c s) (hc:CX own w cb b k lost) (hcc:c<400000) (hk:k≤s.td.length) :
  Calls Tryz.prog 26 #[Z09 cb] w fun r w'=>∃ v,r=.returned v∧GX own w0 w' b dk c s∧CX own w' cb b s.td.length lost∧KeepC cb own own w w'∧rdS 8 (atG Z0k) w' v (s.td.drop k)∧(∀ j,v.ownBlock=some j→w.heap.size≤j∧j<w'.heap.size):=by
 have hN:=hd_ (Zdi hc)
 have hT:=hd_ (gxTold h (by omega))
 obtain⟨n,hn⟩:∃ n,n=s.td.length:=⟨_,rfl⟩
 obtain⟨rest,hrest⟩:∃ r,r=s.td.drop k:=⟨_,rfl⟩
 have hrl:rest.length=n-k:=by rw [hrest,hn,List.length_drop]
 rw [← hrest,← hn]
 rw [← hn] at hk
 have hn7:n≤60*c:=by rw [hn];exact h.fu.ok.tdl
 replace h:=hd_ h
 replace hc:=hd_ hc
 replace hrest:=hd_ hrest
 replace hrl:=hd_ hrl
 go_enter Tryz.func26,Tryz.ntmps26
 go_wp2_with fail
 refine hN.out.mono ?_
 rintro r wx ⟨rfl,rfl⟩
 go_wp2_with fail
 refine hT.out.mono ?_
 rintro r w1 ⟨v1,rfl,ho1,hb1⟩
 have g1:=hd_ (h.out.grow hb1)
 have cc:=hc.out.grow hb1
 have lv:=ho1.lt Z0k
 have hrd:=ho1.rd Z0k
 obtain⟨ad,cap,rfl,hcap,hM,ha⟩:=hrd
 have hat:k<n→∃ gb off,ad=some ⟨gb,off,none⟩∧∀ j (hj:j<rest.length),atG Z0k w1 gb (off+k*8+j*8) rest[j]:=fun hkn=>by
  obtain⟨gb,off,e,hcl⟩:=ha (by omega)
  refine⟨gb,off,e,fun j hj=>?_⟩
  have hj2:k+j<s.td.length:=by have:=hrl.out;omega
  have h1:=hcl (k+j) hj2
  have e2:rest[j]=s.td[k+j]:=by simp only [hrest.out,List.getElem_drop]
  have e3:off+k*8+j*8=off+(k+j)*Z0k.size:=by show _=off+(k+j)*8;omega
  rw [e2,e3];exact h1
 rw [← hn] at hcap ⊢
 have c1:w1.cell? ⟨cb,1,none⟩=some (.int .i64 (k:Int)):=Z00 cc.o 1
 have z1:=Z03 cc.o 1
 have lc:=Z04 cc.o
 replace cc:=hd_ cc
 replace ho1:=hd_ ho1
 replace lv:=hd_ lv
 replace hat:=hd_ hat
 clear ha
 replace hn:=hd_ hn
 unfold maxLen at hM
 clear hN hT
 by_cases hkn:k<n
 ·obtain⟨gb,off,rfl,hcl⟩:=hat.out hkn
  replace hcl:=hd_ hcl
  have hb:decide ((n:Int)≤(k:Int))=false:=decide_eq_false (by omega)
  have hne:cap≠k:=by omega
  replace hb1:=hd_ hb1
  have hs:(((n-k:Nat):Int))=(n:Int)-(k:Int):=by omega
  have hsum:(k:Int)+((n-k:Nat):Int)=(n:Int):=by omega
  go_wp2
  go_ret
  have e:(k:Int)+((n:Int)-(k:Int))=(n:Int):=by omega
  rw [e]
  have lvg:=lv.out gb (by rfl)
  have hbw:=hb1.out
  have hne2:gb≠cb:=by have:=Z04 hc.out.o;omega
  refine⟨_,rfl,g1.out.set2 cc.out.ow 1 _,cc.out.set (o:=1) (v:=.int .i64 (n:Int)) (seen':=(n:Int)) (lost':=lost) rfl,((KeepX.below hbw).c cb).trans (Zbi own w1 cb 1 _),?_,?_⟩
  ·refine⟨some ⟨gb,off+k*8,none⟩,cap-k,?_,?_,?_,fun _=>⟨gb,off+k*8,rfl,fun j hj=>(hcl.out j hj).same Z0k (Z0u rfl hne2)⟩⟩
   ·rw [hrl.out];rfl
   ·rw [hrl.out];omega
   ·unfold maxLen;omega
  ·intro j hj
   cases hj
   rw [World.size_setCell]
   exact lvg
 ·have hb:decide ((n:Int)≤(k:Int))=true:=decide_eq_true (by omega)
  have hkn2:n=k:=by omega
  subst hkn2
  replace hb1:=hd_ hb1
  go_wp2
  go_ret
  have hr0:rest=[]:=List.eq_nil_of_length_eq_zero (by have:=hrl.out;omega)
  refine⟨_,rfl,g1.out,cc.out,(KeepX.below hb1.out).c cb,?_,fun j hj=>by cases hj⟩
  rw [hr0]
  exact⟨none,0,rfl,Nat.le_refl _,Nat.zero_le _,fun h=>absurd h (Nat.lt_irrefl 0)⟩
end
end
section
open Go.RowKit
theorem Full.make {id n boot dv:Int} (h3:3≤n) (h7:n≤7) (h1:1≤id) (hn:id≤n) (hb:1≤boot) (hb2:boot≤1000000) (hd:0≤dv) (hd2:dv≤1099511627776):Full 0 (Nd.make id n boot dv):=by
 have h0:Ok 0 (Nd.make id n boot dv):=Ok.make h3 h7 h1 hn hb (by omega) hd hd2
 refine⟨{ h0 with b3:=hb2,pd:=Nat.zero_le _,pm:=fun e he=>(by cases he),ps0:=Int.le_refl _,lm:=fun e he=>(by cases he),tdl:=Nat.zero_le _,tbl:=Nat.le_refl _,asl:=Nat.zero_le _,asq:=fun q hq=>(by cases hq),qd:=fun q hq=>(by cases hq),er:=?_,st0:=Int.le_refl _ },fun _=>rfl,⟨Int.le_refl _,Int.le_refl _,fun q hq=>by cases hq⟩,fun h=>absurd h (Int.lt_irrefl 0),by show (0:Int)≤1099511627776;omega⟩
 intro x hx
 have hx:x ∈ Z3c:=hx
 have:x=0:=by
  simp only [Z3c,List.mem_cons,List.not_mem_nil,or_false,or_self] at hx
  exact hx
 rw [this]
 exact⟨Int.le_refl _,Int.le_refl _⟩
theorem Zet:MayM (frM 3 2 1 1):=⟨by decide,by decide,by decide,by decide,by decide,by decide,by decide,by decide,by decide,by decide,by decide,by decide,by decide,by decide,by decide,by decide,by decide,by decide,by decide,by decide,by decide,by decide,by decide,by decide,fun e he=>by cases he⟩
theorem gxMake (w:World) (id n boot dv:Int) (dk:Nat) (cs:Array Value) (DT:TypeId) (w0:World) (hw:w0.heap.size≤dk) (hb:Below w0.heap.size w0 w) (hd:dkO w dk 0 cs DT boot dv) (m0:∃ m,w0.cell? ⟨0,0,none⟩=some (.int .i64 m))
  (h3:3≤n) (h7:n≤7) (hi1:1≤id) (hin:id≤n) (hb0:0≤boot) (hb1:boot<1000000) (hv0:0≤dv) (hv1:dv≤1099511627776) :
  Calls Tryz.prog 40 #[.int .i64 id, .int .i64 n,Z09 dk] w fun r w'=>∃ own' b,r=.returned (.tuple #[Z09 b, .int .i64 0])∧GX own' w0 w' b dk 0 (Nd.make id n (boot+1) dv):=by
 refine (pxMake w id n boot dv dk cs DT w0 hw hb hd h3 h7 hi1 hin hb0 (by omega) hv0 hv1).mono ?_
 rintro r w' ⟨own',b,rfl,p,_,_⟩
 exact⟨own',b,rfl,p,m0,Full.make h3 h7 hi1 hin (by omega) (by omega) hv0 hv1⟩
theorem trio_any (w:World) (m0:∃ m,w.cell? ⟨0,0,none⟩=some (.int .i64 m)) :
  Calls Tryz.prog 22 #[] w fun r w'=>∃ own b dk cb,r=.returned (.tuple #[Z09 b,Z09 cb])∧GX own w w' b dk 40 B12∧CX own w' cb b 0 0:=by
 obtain⟨W1,hW1⟩:∃ W,W=w.alloc (.cells #[.int .i64 0, .int .i64 0] 67):=⟨_,rfl⟩
 have hB1:Below w.heap.size w W1:=hW1 ▸ (Below.refl _ _).alloc (Nat.le_refl _) _
 have hd1:dkO W1 w.heap.size 0 #[.int .i64 0, .int .i64 0] 67 0 0:=hW1 ▸ dkO_new w 0
 have hMk:=hd_ (gxMake W1 1 3 0 0 w.heap.size _ _ w (Nat.le_refl _) hB1 hd1 m0 (by omega) (by omega) (by omega) (by omega) (by omega) (by omega) (by omega) (by omega))
 replace hB1:=hd_ hB1
 replace hd1:=hd_ hd1
 replace m0:=hd_ m0
 obtain⟨dk,hdk⟩:∃ dk,dk=w.heap.size:=⟨_,rfl⟩
 rw [← hdk] at hMk
 go_enter Tryz.func22,Tryz.ntmps22
 go_wp2_with fail
 rw [← hW1,← hdk]
 replace hW1:=hd_ hW1
 replace hdk:=hd_ hdk
 refine hMk.out.mono ?_
 rintro r w2 ⟨own2,b,rfl,p2⟩
 replace p2:=hd_ (show GX own2 w w2 b dk 0 B0 from p2)
 clear hMk
 go_wp2
 go_loopw [4] (fun i wr=>∃ (k:Nat) (own:Nat→Nat),k≤10∧i=.int .i64 k∧GX own w wr b dk (3*k) (tickN B0 k)) (fun i _=>10-(intOf i).toNat)
 case atStart=>exact⟨0,own2,by omega,rfl,p2.out⟩
 case round=>
  obtain⟨k,own,hk,rfl,pk⟩:=hrel
  by_cases hlt:k<10
  ·have hcall:=hd_ (Zjm pk (by omega))
   clear pk
   go_wp2_with fail
   refine hcall.out.mono ?_
   rintro r w4 ⟨v4,own4,o4,rfl,p4,k4,q4,e4⟩
   have p4:=hd_ (show GX own4 w w4 b dk (3*(k+1)) (tickN B0 (k+1)) from p4)
   clear hcall k4 q4 e4
   go_wp2
   go_roundw
   case rel=>exact⟨k+1,own4,by omega,by go_num,p4.out⟩
   case measure=>simp [intOf];omega
  ·obtain rfl:k=10:=by omega
   have hBy:=hd_ (fun w1=>Z42 (frM 3 2 1 1) (.slice none 0 0) w1 Zet ⟨none,0,rfl,Nat.le_refl _,Nat.zero_le _,fun h=>absurd h (Nat.lt_irrefl 0)⟩)
   have p4:=hd_ (show GX own w wr b dk 30 B10 from pk)
   clear pk
   go_wp2_with fail
   refine (hBy.out _).mono ?_
   rintro r w6 ⟨v6,rfl,ho6,hb6⟩
   have p6:=p4.out.grow hb6
   have hcall:=hd_ (Zjn p6 (by omega) v6 (frM 3 2 1 1) ho6.rd Zet)
   clear ho6 hb6 p6 hBy
   go_wp2_with fail
   refine hcall.out.mono ?_
   rintro r w7 ⟨v7,own7,o7,rfl,p7,_,_,_⟩
   have hcall2:=hd_ (Zjm (show GX own7 w w7 b dk 31 B11 from p7) (by omega))
   clear hcall p7
   go_wp2_with fail
   refine hcall2.out.mono ?_
   rintro r w8 ⟨v8,own8,o8,rfl,p8,k8,q8,e8⟩
   have hcl:=hd_ (gxClient (show GX own8 w w8 b dk 34 B12 from p8))
   clear hcall2 k8 q8 e8 p8
   go_wp2_with fail
   refine hcl.out.mono ?_
   rintro r w9 ⟨own9,cb,rfl,g9,c9,k9,l9⟩
   replace g9:=hd_ g9
   replace c9:=hd_ c9
   replace k9:=hd_ k9
   go_wp2
   refine bodyPost_ret (v:=.tuple #[Z09 b,Z09 cb]) (by simp [results,Tryz.results22,go_sem]) rfl ?_
   exact⟨own9,b,dk,cb,rfl,g9.out.up (by omega),c9.out⟩
end
section
open Go.RowKit
section
variable {own own':Nat→Nat} {w0 w w':World} {b dk c cb:Nat} {s s':Nd}
theorem GX.any {b' dk' c':Nat} (h:GX own w0 w b dk c s) (h':GX own' w0 w' b' dk' c' s') (hs:w.heap.size≤w'.heap.size):Chg Z1j w w':=
 ⟨h'.px.bel.os.trans h.px.bel.os.symm,h'.px.bel.tape.trans h.px.bel.tape.symm,h'.px.bel.output.trans h.px.bel.output.symm,hs,fun _ _ h=>absurd trivial h⟩
theorem acks_any (h:GX own w0 w b dk c s) (v:Value) (o:List MsS) (l:List Ms) (hq:pubM own w v o) (e:o.map MsS.m=l) (hm:∀ m ∈ l,0≤m.num∧m.num≤1099511627776) (hl:l.length≤100) (hc:c≤300000) :
  Calls Tryz.prog 24 #[Z09 b,v] w fun r w'=>r=.returned (.tuple #[])∧∃ own',GX own' w0 w' b dk (c+l.length) (Z6o s l)∧KeepX own own' w w':=by
 obtain⟨ad,cap,rfl,had⟩:=hq.len e
 replace h:=hd_ h
 replace hq:=hd_ hq
 replace e:=hd_ e
 replace hm:=hd_ hm
 replace had:=hd_ had
 go_enter Tryz.func24,Tryz.ntmps24
 go_wp2
 go_loopw [4] (fun i wr=>∃ (k:Nat) (own':Nat→Nat),k≤l.length∧i=.int .i64 k∧GX own' w0 wr b dk (c+k) (Z6o s (l.take k))∧KeepX own own' w wr) (fun i _=>l.length-(intOf i).toNat)
 case atStart=>exact⟨0,own,Nat.zero_le _,rfl,h.out,KeepX.refl _ _⟩
 case round=>
  obtain⟨k,own1,hk,rfl,gk,kk⟩:=hrel
  by_cases hlt:k<l.length
  ·obtain⟨g,off,rfl,hgl⟩:=had.out (by omega)
   have q1:=hq.out.keep kk.pub
   have x0:=q1.cell e.out g off rfl k hlt 0 (.int .i64 l[k].kind) (by omega) rfl
   have x10:=q1.cell e.out g off rfl k hlt 10 (.int .i64 l[k].num) (by omega) rfl
   have lg:g<wr.heap.size:=Nat.lt_of_lt_of_le hgl kk.size
   have hnum:=hm.out l[k] (List.getElem_mem hlt)
   have hst:=Zgh s l k hlt
   generalize l[k]=m at x0 x10 hnum hst
   generalize hS:Z6o s (l.take k)=S at gk hst
   rw [Nat.add_zero] at x0
   obtain⟨mk,hmk⟩:∃ x,x=m.kind:=⟨_,rfl⟩
   obtain⟨mn,hmn⟩:∃ x,x=m.num:=⟨_,rfl⟩
   rw [← hmk] at x0
   rw [← hmn] at x10 hnum
   replace gk:=hd_ gk
   replace kk:=hd_ kk
   replace hS:=hd_ hS
   replace hst:=hd_ hst
   replace hmk:=hd_ hmk
   replace hmn:=hd_ hmn
   clear q1 hgl
   cases h5:(mk==(5:Int))
   ·cases h4:(mk==(4:Int))
    ·go_wp2
     go_roundw
     case rel=>
      have hk2:Z6o s (l.take (k+1))=S:=by
       rw [hst.out];unfold Zbz
       rw [← hmk.out,h5,h4];rfl
      exact⟨k+1,own1,by omega,by go_num,by rw [hk2];exact gk.out.up (by omega),kk.out⟩
     case measure=>simp [intOf];omega
    ·have hk2:Z6o s (l.take (k+1))=(S.hear (Zbc S mn)).1:=by
      rw [hst.out];unfold Zbz
      rw [← hmk.out,← hmn.out,h5,h4];rfl
     replace hst:=hd_ hst
     go_upto_region 4 with (fail)
     refine Z05 (fun _=>False) (.q 0 (.q 1 (.q 4 (.q 5 (.q 6 (.q 7 (.q 8 (.l 2 (.q 3 (.l 9 (.l 10 (.cut (.l 11 .fin))))))))))))) (by kernel_rfl) (by kernel_rfl) ?_
     intro w4 hh hbw
     have g4:=gk.out.grow hbw
     have u10:=Z01 (F:=fun _=>False) (b:=w4) (fun h=>h) (show w4.cell? ⟨g,off+k*13+10,none⟩=some (.int .i64 mn) by rw [hbw.cell lg];exact x10)
     have hL:=hd_ (gxLog g4)
     have hml:=hd_ (Z5d (s:=S) (c:=c+k) g4.fu.ok hnum)
     replace g4:=hd_ g4
     replace hh:=hd_ hh
     replace hbw:=hd_ hbw
     iterate 7 (refine Z0n rfl ?_;go_big_quiet_step (fail);refine wpQuiet_nil ?_)
     clear u10 x0 x10
     refine Z0j rfl (by kernel_rfl) ?_
     intro K1 hK
     go_simp
     refine hL.out.mono ?_
     rintro r w5 ⟨v5,rfl,ho5,hb5⟩
     obtain⟨a5,c5,rfl⟩:=ho5.rd.len
     refine hK _ _ (.of_below hb5) ?_
     clear hK K1 ho5
     have g5:=hd_ (g4.out.grow hb5)
     refine Z0n rfl ?_;go_big_quiet_step (fail);refine wpQuiet_nil ?_
     refine Z0j rfl (by kernel_rfl) ?_
     intro K1 hK
     go_simp
     refine hK _ _ (.of_below hb5) ?_
     clear hK K1
     refine Z0j rfl (by kernel_rfl) ?_
     intro K1 hK
     go_simp
     refine (Z42 (Zbc S mn) (.slice none 0 0) w5 hml.out (Z8z w5 none 0 (Nat.zero_le _))).mono ?_
     rintro r w6 ⟨v6,rfl,ho6,hb6⟩
     have hb46:=hb5.trans (hb6.mono hb5.size)
     refine hK _ _ (.of_below hb46) ?_
     clear hK K1
     have g6:=g4.out.grow hb46
     have k6:=hd_ (kk.out.trans (.below (hbw.out.trans (hb46.mono hbw.out.size))))
     have hcall:=hd_ (Zjn g6 (by omega) v6 (Zbc S mn) ho6.rd hml.out)
     clear hb46 hb6 ho6 hL hml
     replace g6:=hd_ g6
     replace hb5:=hd_ hb5
     refine Z0h Z1j ?_
     refine Z0j rfl (by kernel_rfl) ?_
     intro K1 hK
     go_simp
     refine hcall.out.mono ?_
     rintro r w7 ⟨v7,own7,o7,rfl,g7,k7,_,_⟩
     refine hK _ _ (g6.out.any g7 k7.size) ?_
     clear hK K1
     refine Z0c ?_
     replace g7:=hd_ g7
     have k8:=hd_ (k6.out.trans k7)
     clear k7 hcall k6 g5 g4
     go_wp2
     go_roundw
     case rel=>exact⟨k+1,own7,by omega,by go_num,by rw [hk2];exact g7.out.up (by omega),k8.out⟩
     case measure=>simp [intOf];omega
   ·have hk2:Z6o s (l.take (k+1))=(S.hear (Zbc S mn)).1:=by
     rw [hst.out];unfold Zbz
     rw [← hmk.out,← hmn.out,h5];rfl
    replace hst:=hd_ hst
    go_upto_region 4 with (fail)
    refine Z05 (fun _=>False) (.q 0 (.q 1 (.q 4 (.q 5 (.q 6 (.q 7 (.q 8 (.l 2 (.q 3 (.l 9 (.l 10 (.cut (.l 11 .fin))))))))))))) (by kernel_rfl) (by kernel_rfl) ?_
    intro w4 hh hbw
    have g4:=gk.out.grow hbw
    have u10:=Z01 (F:=fun _=>False) (b:=w4) (fun h=>h) (show w4.cell? ⟨g,off+k*13+10,none⟩=some (.int .i64 mn) by rw [hbw.cell lg];exact x10)
    have hL:=hd_ (gxLog g4)
    have hml:=hd_ (Z5d (s:=S) (c:=c+k) g4.fu.ok hnum)
    replace g4:=hd_ g4
    replace hh:=hd_ hh
    replace hbw:=hd_ hbw
    iterate 7 (refine Z0n rfl ?_;go_big_quiet_step (fail);refine wpQuiet_nil ?_)
    clear u10 x0 x10
    refine Z0j rfl (by kernel_rfl) ?_
    intro K1 hK
    go_simp
    refine hL.out.mono ?_
    rintro r w5 ⟨v5,rfl,ho5,hb5⟩
    obtain⟨a5,c5,rfl⟩:=ho5.rd.len
    refine hK _ _ (.of_below hb5) ?_
    clear hK K1 ho5
    have g5:=hd_ (g4.out.grow hb5)
    refine Z0n rfl ?_;go_big_quiet_step (fail);refine wpQuiet_nil ?_
    refine Z0j rfl (by kernel_rfl) ?_
    intro K1 hK
    go_simp
    refine hK _ _ (.of_below hb5) ?_
    clear hK K1
    refine Z0j rfl (by kernel_rfl) ?_
    intro K1 hK
    go_simp
    refine (Z42 (Zbc S mn) (.slice none 0 0) w5 hml.out (Z8z w5 none 0 (Nat.zero_le _))).mono ?_
    rintro r w6 ⟨v6,rfl,ho6,hb6⟩
    have hb46:=hb5.trans (hb6.mono hb5.size)
    refine hK _ _ (.of_below hb46) ?_
    clear hK K1
    have g6:=g4.out.grow hb46
    have k6:=hd_ (kk.out.trans (.below (hbw.out.trans (hb46.mono hbw.out.size))))
    have hcall:=hd_ (Zjn g6 (by omega) v6 (Zbc S mn) ho6.rd hml.out)
    clear hb46 hb6 ho6 hL hml
    replace g6:=hd_ g6
    replace hb5:=hd_ hb5
    refine Z0h Z1j ?_
    refine Z0j rfl (by kernel_rfl) ?_
    intro K1 hK
    go_simp
    refine hcall.out.mono ?_
    rintro r w7 ⟨v7,own7,o7,rfl,g7,k7,_,_⟩
    refine hK _ _ (g6.out.any g7 k7.size) ?_
    clear hK K1
    refine Z0c ?_
    replace g7:=hd_ g7
    have k8:=hd_ (k6.out.trans k7)
    clear k7 hcall k6 g5 g4
    go_wp2
    go_roundw
    case rel=>exact⟨k+1,own7,by omega,by go_num,by rw [hk2];exact g7.out.up (by omega),k8.out⟩
    case measure=>simp [intOf];omega
  ·obtain rfl:k=l.length:=by omega
   have gk:=hd_ (show GX own1 w0 wr b dk (c+l.length) (Z6o s l) from by rw [List.take_length] at gk;exact gk)
   replace kk:=hd_ kk
   go_wp2
   go_end0
   exact⟨rfl,own1,gk.out,kk.out⟩
end
end
section
open Go.RowKit
def stepA (s:Nd):Nd:=Z6o s.tick.1 s.tick.2
def Zgj (s:Nd):Nat→Nd
 | 0=>s
 | k+1=>stepA (Zgj s k)
def Zjs:ByteArray:=⟨#[97,61,98]⟩
def Zgk:ByteArray:=⟨#[97]⟩
def C0:Nd:=(B12.cast 1 1 Zjs).1
theorem c_cast:(B12.cast 1 1 Zjs).2=0:=by decide +kernel
theorem c_get0:(C0.get Zgk).2=7:=by decide +kernel
theorem c_get3:((Zgj C0 3).get Zgk).1.data.toList=[98]∧((Zgj C0 3).get Zgk).2=0:=by decide +kernel
theorem c_st:(Zgj C0 3).in_=true∧(Zgj C0 3).good=true∧(Zgj C0 3).view.1=1∧(Zgj C0 3).com=1∧(Zgj C0 3).td.length=1:=by decide +kernel
theorem Zjt {a:ByteArray} {l:List UInt8} (h:a.data.toList=l):a=⟨l.toArray⟩:=by
 cases a with | mk d=>cases d with | mk l'=>have h:l'=l:=h;rw [h]
section
variable {own own':Nat→Nat} {w0 w w':World} {b dk c cb:Nat} {s s':Nd}
theorem nums_of {l:List Ms} (h:Z9r l):∀ m ∈ l,0≤m.num∧m.num≤1099511627776:=fun m hm=>⟨(h m hm).n1,(h m hm).n2⟩
theorem b26_any (w:World) (m0:∃ m,w.cell? ⟨0,0,none⟩=some (.int .i64 m)):Calls Tryz.prog 21 #[] w fun r w'=>r=.returned (.bool true)∧Below w.heap.size w w':=by
 have hT:=hd_ (trio_any w m0)
 go_enter Tryz.func21,Tryz.ntmps21
 go_wp2_with fail
 refine hT.out.mono ?_
 rintro r w1 ⟨own1,b,dk,cb,rfl,g1,x1⟩
 have hC:=cxCast g1 x1 (by omega) (by omega) 1 1 Zjs
 rw [c_cast] at hC
 replace hC:=hd_ hC
 clear hT g1 x1
 go_wp2_with fail
 refine hC.out.mono ?_
 rintro r w2 ⟨own2,rfl,g2,x2,_⟩
 have g2:=hd_ (show GX own2 w w2 b dk 40 C0 from g2)
 have x2:=hd_ (show CX own2 w2 cb b 0 0 from x2)
 have hG:=cxGet g2.out x2.out (by omega) Zgk (by decide)
 rw [c_get0] at hG
 replace hG:=hd_ hG
 clear hC
 go_wp2_with fail
 refine hG.out.mono ?_
 rintro r w3 ⟨rfl,hb3⟩
 have g3:=hd_ (g2.out.grow hb3)
 have x3:=hd_ (x2.out.grow hb3)
 generalize (C0.get Zgk).1=gv
 clear hG hb3 g2 x2
 go_wp2
 go_loopw [6] (fun i wr=>∃ (k:Nat) (own:Nat→Nat),k≤3∧i=.int .i64 k∧GX own w wr b dk (40+10*k) (Zgj C0 k)∧CX own wr cb b 0 0) (fun i _=>3-(intOf i).toNat)
 case atStart=>exact⟨0,own2,by omega,rfl,g3.out,x3.out⟩
 case round=>
  obtain⟨k,own,hk,rfl,pk,xk⟩:=hrel
  by_cases hlt:k<3
  ·have hcall:=hd_ (Zjm pk (by omega))
   have hout:=pk.fu.ok.tickM pk.fu.mn (by omega)
   clear pk
   replace xk:=hd_ xk
   replace hout:=hd_ hout
   go_wp2_with fail
   refine hcall.out.mono ?_
   rintro r w4 ⟨v4,own4,o4,rfl,p4,k4,q4,e4⟩
   have x4:=hd_ (xk.out.keep k4)
   have hA:=hd_ (acks_any p4 v4 o4 _ q4 e4 (nums_of hout.out.2) (by have:=hout.out.1;omega) (by omega))
   clear hcall k4 q4 e4 p4
   go_wp2_with fail
   refine hA.out.mono ?_
   rintro r w5 ⟨rfl,own5,g5,k5⟩
   have g5:=hd_ (show GX own5 w w5 b dk (40+10*(k+1)) (Zgj C0 (k+1)) from g5.up (by have:=hout.out.1;omega))
   have x5:=hd_ (x4.out.keep k5)
   clear hA k5 x4
   go_wp2
   go_roundw
   case rel=>exact⟨k+1,own5,by omega,by go_num,g5.out,x5.out⟩
   case measure=>simp [intOf];omega
  ·obtain rfl:k=3:=by omega
   have pk:=hd_ (show GX own w wr b dk 70 (Zgj C0 3) from pk)
   replace xk:=hd_ xk
   have hG:=cxGet pk.out xk.out (by omega) Zgk (by decide)
   rw [Zjt c_get3.1,c_get3.2] at hG
   replace hG:=hd_ hG
   clear g3 x3
   go_wp2_with fail
   refine hG.out.mono ?_
   rintro r w4 ⟨rfl,hb4⟩
   have g4:=hd_ (pk.out.grow hb4)
   have x4:=hd_ (xk.out.grow hb4)
   have hS:=Zes g4.out x4.out (by omega)
   obtain⟨s1,s2,s3,s4,s5⟩:=c_st
   unfold stV at hS
   rw [Zjr,s1,s2,s3,s4,s5] at hS
   generalize ((Zgj C0 3).L.length:Int)=y1 at hS
   generalize ((Zgj C0 3).pend.length:Int)=y2 at hS
   replace hS:=hd_ hS
   clear hG hb4 pk xk
   go_wp2_with fail
   refine hS.out.mono ?_
   rintro r w5 ⟨rfl,hb5⟩
   have hba:Below w4.heap.size w4 (w5.alloc (.cells #[.bool true, .bool true, .bool true, .int .i64 1, .int .i64 y1, .int .i64 1, .int .i64 1, .int .i64 y2] 47)):=hb5.alloc hb5.size _
   have g5:=hd_ (g4.out.grow hba)
   have x5:=x4.out.grow hba
   have hx5:(w5.alloc (.cells #[.bool true, .bool true, .bool true, .int .i64 1, .int .i64 y1, .int .i64 1, .int .i64 1, .int .i64 y2] 47)).heap[w5.heap.size]?=_:=Z0a _ _
   obtain⟨W5,hW5⟩:∃ W,W=w5.alloc (.cells #[.bool true, .bool true, .bool true, .int .i64 1, .int .i64 y1, .int .i64 1, .int .i64 1, .int .i64 y2] 47):=⟨_,rfl⟩
   obtain⟨sb,hsb⟩:∃ x,x=w5.heap.size:=⟨_,rfl⟩
   rw [← hW5,← hsb] at hx5
   rw [← hW5] at g5 x5
   have hn:sb≠cb:=by have:=Z04 x4.out.o;have:=hb5.size;omega
   have h0:own sb=0:=g4.out.px.wf sb (by have:=hb5.size;omega)
   have hP:=hd_ (cxPoll (k:=0) g5.out x5 (by omega) (Nat.zero_le _))
   replace x5:=hd_ x5
   clear hS hb5 hba g4 x4
   go_wp2_with fail
   rw [← hW5,← hsb]
   replace hW5:=hd_ hW5
   replace hsb:=hd_ hsb
   refine hP.out.mono ?_
   rintro r w6 ⟨v6,rfl,g6,x6,k6,r6,f6⟩
   obtain⟨a6,c6,hv6⟩:=r6.len
   rw [List.length_drop,s5] at hv6
   subst hv6
   have x6:=(show CX own w6 cb b ((1:Nat):Int) 0 from by rw [s5] at x6;exact x6)
   obtain⟨q1,q2⟩:=k6.keep sb (Z04 hx5) (by rw [h0];exact jk0 (Nat.le_refl _))
   have hx6:=(q2 hn).trans hx5
   have z0:=Z00 hx6 0
   have z1:=Z00 hx6 1
   have z2:=Z00 hx6 2
   have z3:=Z00 hx6 3
   have z5:=Z00 hx6 5
   have z6:=Z00 hx6 6
   have lz:=Z04 hx6
   have hP2:=hd_ (cxPoll (k:=1) g6 x6 (by omega) (by omega))
   clear hP g6 x6 k6 r6 f6 q1 q2 g5 x5 s1 s2 s3 s4 hx5
   replace hx6:=hd_ hx6
   go_wp2_with fail
   refine hP2.out.mono ?_
   rintro r w7 ⟨v7,rfl,g7,x7,k7,r7,f7⟩
   obtain⟨a7,c7,hv7⟩:=r7.len
   rw [List.length_drop,s5] at hv7
   subst hv7
   have hL:=hd_ (cxLost x7)
   have hfin:=g7.px.bel
   replace hfin:=hd_ hfin
   have hb7:=w7.heap.size
   clear hP2 g7 x7 k7 r7 f7
   go_wp2_with fail
   refine hL.out.mono ?_
   rintro r w8 ⟨rfl,hb8⟩
   have hf8:=hd_ (hfin.out.trans (hb8.mono hfin.out.size))
   go_wp2
   go_ret
   exact⟨rfl,hf8.out⟩
end
end
end Go.Proofs.YtbonjbokofkafaaGreat
