/- Lemmas of the proof: PkW. -/
import Derived.Test.YtbonjbokofkafaaGreatPkU
import Derived.Test.YtbonjbokofkafaaGreatPkV
import Derived.Test.YtbonjbokofkafaaGreatPkO
import Derived.Test.YtbonjbokofkafaaGreatPkP
import Derived.Laws.LoneSync
import Derived.Test.YtbonjbokofkafaaGreatPkK
import Derived.Test.YtbonjbokofkafaaGreatPkL
import Derived.Test.YtbonjbokofkafaaGreatPkA
namespace Go.Proofs.YtbonjbokofkafaaGreat
set_option linter.unusedVariables false
set_option maxRecDepth 100000
set_option maxHeartbeats 64000000
section
open Go.RowKit
structure KeepX (own own':Nat→Nat) (w w':World):Prop where
 size:w.heap.size≤w'.heap.size
 keep:∀ c,c<w.heap.size→¬ JK 16 (own c)→own' c=own c∧w'.heap[c]?=w.heap[c]?
theorem KeepX.refl (own:Nat→Nat) (w:World):KeepX own own w w:=⟨Nat.le_refl _,fun c _ h=>⟨rfl,rfl⟩⟩
theorem KeepX.trans {o1 o2 o3:Nat→Nat} {a b c:World} (h:KeepX o1 o2 a b) (k:KeepX o2 o3 b c):KeepX o1 o3 a c:=
 ⟨Nat.le_trans h.size k.size,fun x hx ho=>by
  obtain⟨h1,h2⟩:=h.keep x hx ho
  obtain⟨k1,k2⟩:=k.keep x (Nat.lt_of_lt_of_le hx h.size) (by rw [h1];exact ho)
  exact⟨k1.trans h1,k2.trans h2⟩⟩
theorem KeepX.below {own:Nat→Nat} {w w':World} (hb:Below w.heap.size w w'):KeepX own own w w':=⟨hb.size,fun c hc _=>⟨rfl,hb.block c hc⟩⟩
theorem KeepX.pub {own own':Nat→Nat} {w w':World} (h:KeepX own own' w w'):Keeps own own' w w':=
 ⟨h.size,fun c hc ho=>by obtain⟨h1,h2⟩:=h.keep c hc (by rw [ho];exact jk0 (Nat.le_refl _));exact⟨h1.trans ho,h2⟩⟩
theorem KeepX.block {own own':Nat→Nat} {w w':World} (h:KeepX own own' w w') {c:Nat} {o:Obj} (ho:w.heap[c]?=some o) (hn:¬ JK 16 (own c)):w'.heap[c]?=some o:=by
 have hl:c<w.heap.size:=Z04 ho
 rw [(h.keep c hl hn).2];exact ho
structure GX (own:Nat→Nat) (w0 w:World) (b dk:Nat) (c:Nat) (s:Nd):Prop where
 px:PX own w0 w b dk s
 m0:∃ m,w0.cell? ⟨0,0,none⟩=some (.int .i64 m)
 fu:Full c s
section
variable {own own':Nat→Nat} {w0 w w':World} {b dk c:Nat} {s s':Nd} {a a':NdAt}
theorem GX.m (h:GX own w0 w b dk c s):M0 own w:=by
 obtain⟨m,hm⟩:=h.m0
 have hl:=Z0f hm
 exact⟨h.px.low 0 hl,m,by rw [h.px.bel.cell hl];exact hm⟩
theorem GX.up {d:Nat} (h:GX own w0 w b dk c s) (hd:c≤d):GX own w0 w b dk d s:=⟨h.px,h.m0,h.fu.up hd⟩
theorem GX.grow (h:GX own w0 w b dk c s) (hb:Below w.heap.size w w'):GX own w0 w' b dk c s:=⟨(h.px.grow hb).1,h.m0,h.fu⟩
end
end
section
open Go.RowKit
def ctC (x:Value) (seen lost:Int):Array Value:=#[x, .int .i64 seen, .int .i64 0, .int .i64 lost, .int .i64 0, .int .i64 0, .int .i64 0, .int .i64 0, .int .i64 0, .int .i64 0, .int .i64 0, .int .i64 0, .int .i64 0, .int .i64 0, .int .i64 0, .int .i64 0, .int .i64 0, .int .i64 0]
def ctO (w:World) (cb:Nat) (x:Value) (seen lost:Int):Prop:=w.heap[cb]?=some (.cells (ctC x seen lost) 126 (0,0))
theorem Zer (b:Option Nat) (w:World):Calls Tryz.prog 39 #[Z3f b] w fun r w'=>r=.returned (Z09 w.heap.size)∧w'=w.alloc (.cells (ctC (Z3f b) 0 0) 126):=by
 go_enter Tryz.func39,Tryz.ntmps39
 go_wp2
 go_ret
 exact⟨rfl,rfl⟩
theorem Zbf (cb:Nat) (x:Value) (seen lost:Int) (w:World) (h:ctO w cb x seen lost):Calls Tryz.prog 80 #[Z09 cb] w fun r w'=>r=.returned x∧w=w':=by
 have c0:w.cell? ⟨cb,0,none⟩=some x:=Z00 h 0
 have hl:=Z04 h
 clear h
 go_enter Tryz.func80,Tryz.ntmps80
 go_wp2
 go_ret
 exact⟨rfl,rfl⟩
theorem Zbg (cb:Nat) (w:World):Calls Tryz.prog 144 #[.pointer (some ⟨cb,2,none⟩), .int .i64 1] w fun r w'=>r=.returned (.bool true)∧Below w.heap.size w w':=by
 go_enter Tryz.func144,Tryz.ntmps144
 go_wp2
 go_ret
 exact⟨rfl,Below.refl _ _⟩
theorem Zjo (cb:Nat) (x:Value) (seen lost:Int) (w:World) (h:ctO w cb x seen lost) (h0:0≤lost) (h1:lost≤1099511627776) :
  Calls Tryz.prog 145 #[.pointer (some ⟨cb,3,none⟩), .int .i64 1] w fun r w'=>r=.returned (.int .i64 (lost+1))∧w'=w.setCell ⟨cb,3,none⟩ (.int .i64 (lost+1)):=by
 have c3:w.cell? ⟨cb,3,none⟩=some (.int .i64 lost):=Z00 h 3
 have z3:=Z03 h 3
 have hl:=Z04 h
 have hw:IntKind.i64.wrap (lost+1)=lost+1:=by rw [IntKind.wrap_i64];omega
 have a0:=run_call_add (P:=Tryz.prog) Tryz.func188 (by kernel_rfl) (by kernel_rfl) (by kernel_rfl) .i64 (by kernel_rfl) (y:=1) (s:=lost+1) c3 z3 (by simp [go_sem,hw])
 clear h
 go_enter Tryz.func145,Tryz.ntmps145
 go_wp2
 go_ret
 exact⟨rfl,rfl⟩
theorem Zbh (cb:Nat) (x:Value) (seen lost:Int) (w:World) (h:ctO w cb x seen lost) (h0:0≤lost) (h1:lost≤1099511627776) :
  Calls Tryz.prog 82 #[.pointer (some ⟨cb,2,none⟩), .int .i64 1] w fun r w'=>r=.returned (.int .i64 (lost+1))∧∃ w1,Below w.heap.size w w1∧w'=w1.setCell ⟨cb,3,none⟩ (.int .i64 (lost+1)):=by
 have hH:=hd_ (Zbg cb w)
 replace h:=hd_ h
 go_enter Tryz.func82,Tryz.ntmps82
 go_wp2_with fail
 refine hH.out.mono ?_
 rintro r w1 ⟨rfl,a0⟩
 have hA:=hd_ (Zjo cb x seen lost w1 (Z02 h.out a0) h0 h1)
 have hl:=Z04 (Z02 h.out a0)
 replace a0:=hd_ a0;go_wp2_with fail
 refine hA.out.mono ?_
 rintro r w2 ⟨rfl,rfl⟩;go_wp2
 go_ret
 exact⟨rfl,_,a0.out,rfl⟩
structure KeepC (cb:Nat) (own own':Nat→Nat) (w w':World):Prop where
 size:w.heap.size≤w'.heap.size
 keep:∀ c,c<w.heap.size→¬ JK 16 (own c)→own' c=own c∧(c≠cb→w'.heap[c]?=w.heap[c]?)
theorem KeepX.c {own own':Nat→Nat} {w w':World} (h:KeepX own own' w w') (cb:Nat):KeepC cb own own' w w':=⟨h.size,fun c hc hn=>⟨(h.keep c hc hn).1,fun _=>(h.keep c hc hn).2⟩⟩
theorem KeepC.trans {cb:Nat} {o1 o2 o3:Nat→Nat} {a b c:World} (h:KeepC cb o1 o2 a b) (k:KeepC cb o2 o3 b c):KeepC cb o1 o3 a c:=
 ⟨Nat.le_trans h.size k.size,fun x hx ho=>by
  obtain⟨h1,h2⟩:=h.keep x hx ho
  obtain⟨k1,k2⟩:=k.keep x (Nat.lt_of_lt_of_le hx h.size) (by rw [h1];exact ho)
  exact⟨k1.trans h1,fun hn=>(k2 hn).trans (h2 hn)⟩⟩
structure CX (own:Nat→Nat) (w:World) (cb b:Nat) (seen lost:Int):Prop where
 ow:own cb=2
 o:ctO w cb (Z09 b) seen lost
theorem jk2:¬ JK 16 2:=by unfold JK;omega
section
variable {own own':Nat→Nat} {w0 w w':World} {b dk c cb:Nat} {s s':Nd} {seen lost:Int}
theorem CX.keep (h:CX own w cb b seen lost) (k:KeepX own own' w w'):CX own' w' cb b seen lost:=
 ⟨((k.keep cb (Z04 h.o) (by rw [h.ow];exact jk2)).1).trans h.ow,k.block h.o (by rw [h.ow];exact jk2)⟩
theorem CX.grow (h:CX own w cb b seen lost) (hb:Below w.heap.size w w'):CX own w' cb b seen lost:=h.keep (.below hb)
theorem CX.set (h:CX own w cb b seen lost) {o:Nat} {v:Value} {seen' lost':Int} (e:(ctC (Z09 b) seen lost).setIfInBounds o v=ctC (Z09 b) seen' lost'):CX own (w.setCell ⟨cb,o,none⟩ v) cb b seen' lost':=
 ⟨h.ow,by unfold ctO;rw [← e];exact Z0d h.o⟩
def labO (own:Nat→Nat) (cb j:Nat):Nat→Nat:=fun x=>if x=cb then j else own x
theorem Zdh (own:Nat→Nat) (cb j:Nat):labO own cb j cb=j:=if_pos rfl
theorem Z45 {own:Nat→Nat} {cb j x:Nat} (h:x≠cb):labO own cb j x=own x:=if_neg h
theorem NdR.relab {K:Nat} {a:NdAt} (h:NdR own K w a s []) (ho:a.ov=.slice none 0 0) (wf':∀ c,w.heap.size≤c→own' c=0) (hK:∀ c,own c=1∨(K≤own c∧own c≤K+12)→own' c=own c):NdR own' K w a s []:=by
 have hk:=h.k16
 have eq:∀ {c j:Nat},own c=j→(j=1∨(K≤j∧j≤K+12))→own' c=j:=fun e hj=>(hK _ (by rw [e];exact hj)).trans e
 have is:∀ {j:Nat},(j=1∨(K≤j∧j≤K+12))→∀ k,Is own j k→Is own' j k:=fun hj k hk=>eq hk hj
 refine⟨wf',hk,eq h.ob (by omega),eq h.odk (by omega),h.dsz,h.dsk,⟨eq h.gm.1 (by omega),h.gm.2⟩,fun e e2=>⟨eq (h.jn e e2).1 (by omega),(h.jn e e2).2⟩,
  h.lg.mono (is (by omega)),h.pn.mono (is (by omega)),h.rq.mono (is (by omega)),⟨eq h.tt.1 (by omega),eq h.tt.2.1 (by omega),h.tt.2.2⟩,h.pf.mono (is (by omega)),?_,?_,⟨h.ask.1,fun k hk'=>eq (h.ask.2 k hk') (by omega)⟩,?_⟩
 ·have hv:=h.vt
  match hs:s.v,ha:a.v with
  | none,none=>trivial
  | some (u,l),some vb=>
    rw [hs,ha] at hv
    obtain⟨ls,e,hv⟩:=hv
    refine⟨ls,e,hv.monoF (is (by omega)) (is (by omega)) fun k h1 h2=>?_⟩
    have h1:own' k=K+8:=h1
    have h2:own' k=K+9:=h2
    omega
  | none,some _=>rw [hs,ha] at hv;exact hv.elim
  | some (_,_),none=>rw [hs,ha] at hv;exact hv.elim
 ·have hq:=h.qm
  match hs:s.q,ha:a.qb with
  | none,none=>trivial
  | some q,some qb=>rw [hs,ha] at hq;exact⟨eq hq.1 (by omega),hq.2⟩
  | none,some _=>rw [hs,ha] at hq;exact hq.elim
  | some _,none=>rw [hs,ha] at hq;exact hq.elim
 ·rw [ho]
  exact⟨Z12 _ _ _ _,fun k hk=>(by cases hk),fun x hx=>(by cases hx)⟩
theorem GX.lab (h:GX own w0 w b dk c s) {g j:Nat} (hg:own g=0) (h0:w0.heap.size≤g) (hl:g<w.heap.size) (hj:¬ JK 16 j):GX (labO own g j) w0 w b dk c s:=by
 obtain⟨⟨hlow,hbel,a,hN,e1,e2,e3,e4⟩,m0,fu⟩:=h
 refine⟨⟨fun x hx=>(Z45 (by omega)).trans (hlow x hx),hbel,a,⟨hN.blk,hN.ears,hN.r.relab e4 (fun x hx=>(Z45 (by omega)).trans (hN.wf x hx)) fun x hx=>Z45 fun e=>?_⟩,e1,e2,e3,e4⟩,m0,fu⟩
 rw [e,hg] at hx
 omega
end
end
section
open Go.RowKit
def Nd.get (s:Nd) (a:ByteArray):ByteArray × Int:=if !s.in_ then (⟨#[]⟩,6) else if !s.good then (⟨#[]⟩,7) else if !(Zhr s.tb a).2 then (⟨#[]⟩,8) else ((Zhr s.tb a).1,0)
end
section
open Go.RowKit
theorem Full.make {id n boot dv:Int} (h3:3≤n) (h7:n≤7) (h1:1≤id) (hn:id≤n) (hb:1≤boot) (hb2:boot≤1000000) (hd:0≤dv) (hd2:dv≤1099511627776):Full 0 (Nd.make id n boot dv):=by
 have h0:Ok 0 (Nd.make id n boot dv):=Ok.make h3 h7 h1 hn hb (by omega) hd hd2
 refine⟨{ h0 with b3:=hb2,pd:=Nat.zero_le _,pm:=fun e he=>(by cases he),ps0:=Int.le_refl _,lm:=fun e he=>(by cases he),tdl:=Nat.zero_le _,tbl:=Nat.le_refl _,asl:=Nat.zero_le _,asq:=fun q hq=>(by cases hq),qd:=fun q hq=>(by cases hq),er:=?_,st0:=Int.le_refl _ },fun _=>rfl,⟨Int.le_refl _,Int.le_refl _,fun q hq=>by cases hq⟩,fun h=>absurd h (Int.lt_irrefl 0),by show (0:Int)≤1099511627776;omega⟩
 intro x hx
 have hx:x ∈ Z3c:=hx
 have:x=0:=by
  simp only [Z3c,List.mem_cons,List.not_mem_nil,or_false,or_self] at hx
  exact hx
 rw [this]
 exact⟨Int.le_refl _,Int.le_refl _⟩
end
section
open Go.RowKit
section
variable {own own':Nat→Nat} {w0 w w':World} {b dk c cb:Nat} {s s':Nd}
theorem GX.any {b' dk' c':Nat} (h:GX own w0 w b dk c s) (h':GX own' w0 w' b' dk' c' s') (hs:w.heap.size≤w'.heap.size):Chg Z1j w w':=
 ⟨h'.px.bel.os.trans h.px.bel.os.symm,h'.px.bel.tape.trans h.px.bel.tape.symm,h'.px.bel.output.trans h.px.bel.output.symm,hs,fun _ _ h=>absurd trivial h⟩
end
end
section
open Go.RowKit
def Zjs:ByteArray:=⟨#[97,61,98]⟩
def C0:Nd:=(B12.cast 1 1 Zjs).1
end
end Go.Proofs.YtbonjbokofkafaaGreat
