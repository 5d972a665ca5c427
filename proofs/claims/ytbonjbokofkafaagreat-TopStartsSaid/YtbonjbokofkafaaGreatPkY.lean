/- Lemmas of the proof: PkY. -/
import Derived.Test.YtbonjbokofkafaaGreatPkU
import Derived.Test.YtbonjbokofkafaaGreatPkW
import Derived.Test.YtbonjbokofkafaaGreatPkL
import Derived.Test.YtbonjbokofkafaaGreatPkV
import Derived.Test.YtbonjbokofkafaaGreatPkE
import Derived.Test.YtbonjbokofkafaaGreatPkR
import Derived.Deep.RegionLaw
import Derived.Test.YtbonjbokofkafaaGreatPkH
import Derived.Test.YtbonjbokofkafaaGreatPkM
import Derived.WalkSpells
import Derived.Test.YtbonjbokofkafaaGreatPkA
import Derived.Test.YtbonjbokofkafaaGreatPkP
import Derived.Test.YtbonjbokofkafaaGreatPkO
namespace Go.Proofs.YtbonjbokofkafaaGreat
set_option linter.unusedVariables false
set_option maxRecDepth 100000
set_option maxHeartbeats 64000000
section
open Go.RowKit
structure Pr where
 s:Option Nd
 seen:Int
 lost:Int
 boot:Int
 dv:Int
structure Wl where
 n:Int
 ps:List Pr
 net:List Ms
 real:Int
def pr0:Pr:=⟨none,0,0,0,0⟩
def Z1x:List Ms→List Ms→List Ms
 | net,[]=>net
 | net,m :: ms=>Z1x (if decide (net.length<400) then net++[m] else net) ms
def Wl.get (W:Wl) (id:Int):Pr:=W.ps.getD (id-1).toNat pr0
def Wl.put (W:Wl) (id:Int) (s:Nd):Wl:={ W with ps:=W.ps.modify (id-1).toNat fun p=>{ p with s:=some s,dv:=s.dv } }
def Wl.is (W:Wl) (id:Int):Bool:=decide (1≤id)&&decide (id≤W.n)
def Wl.node (W:Wl) (id:Int):Option Nd:=if W.is id then (W.get id).s else none
def Wl.tick (W:Wl) (id:Int):Wl:=
 match W.node id with
 | none=>W
 | some s=>let r:=s.tick;{ W.put id r.1 with net:=Z1x W.net r.2 }
def Wl.hear (W:Wl) (m:Ms):Wl:=
 match W.node m.too with
 | none=>W
 | some s=>let r:=s.hear m;{ W.put m.too r.1 with net:=Z1x W.net r.2 }
def Wl.mail (W:Wl) (fn i:Int):Wl × Int:=
 if i<0 then (W,3) else
 match W.net[i.toNat]? with
 | none=>(W,3)
 | some m=>
   let W1:=if fn==5 then W else { W with net:=W.net.eraseIdx i.toNat }
   (if fn==4 then W1 else W1.hear m,0)
def Wl.ticks (W:Wl):Nat→Int→Wl
 | 0,_=>W
 | k+1,id=>(W.tick id).ticks k (id+1)
def Wl.mails (W:Wl):Nat→Wl
 | 0=>W
 | k+1=>match W.net with
   | []=>W
   | m :: l=>({ W with net:=l }.hear m).mails k
def Wl.round (W:Wl):Wl:=({ W with real:=W.real+1 }.ticks W.n.toNat 1).mails 3000
def Wl.rounds (W:Wl):Nat→Wl
 | 0=>W
 | k+1=>W.round.rounds k
def Wl.start (W:Wl) (id:Int):Wl × Int:=
 let p:=W.get id
 if p.s.isSome then (W,9)
 else ({ W with ps:=W.ps.set (id-1).toNat ⟨some (Nd.make id W.n (p.boot+1) p.dv),0,0,p.boot+1,p.dv⟩ },0)
def Wl.one (W:Wl) (fn id o l:Int) (d:ByteArray):Wl × Int:=
 if !W.is id then (W,8)
 else if fn==7 then W.start id
 else match (W.get id).s with
  | none=>(W,5)
  | some s=>
    if fn==6 then ({ W with ps:=W.ps.modify (id-1).toNat fun p=>{ p with s:=none } },0)
    else if fn==2 then (W.tick id,0)
    else
     let r:=s.cast o l d
     ({ W with ps:=W.ps.modify (id-1).toNat fun p=>{ p with s:=some r.1,lost:=if r.2==0 then p.lost else p.lost+1 } },r.2)
def Wl.step (W:Wl) (fn a n o l:Int) (d:ByteArray):Wl × Int:=
 if fn==1 then ({ W with real:=W.real+1 },0)
 else if fn==9 then (if n<0∨200<n then (W,3) else (W.rounds n.toNat,0))
 else if fn==3||fn==4||fn==5 then W.mail fn n
 else if fn==2||fn==6||fn==7||fn==8 then W.one fn a o l d
 else (W,1)
def Wl.make (n:Int):Wl:=⟨n,(List.range n.toNat).map fun (i:Nat)=>⟨some (Nd.make ((i:Nat)+1:Nat) n 1 0),0,0,1,0⟩,[],0⟩
end
section
open Go.RowKit
structure MlS where
 m:Ms
 a:Option Addr
 n:Nat
 c:Nat
def Z2h:Shp MlS:=⟨2,fun x=>[.int .i64 x.m.too, .slice x.a x.n x.c],fun _=>rfl,by decide,fun x u hu=>by
 simp only [List.mem_cons,List.not_mem_nil,or_false] at hu
 rcases hu with rfl | rfl<;>rfl⟩
structure MlOk (own:Nat→Nat) (w:World) (x:MlS):Prop where
 rd:rdB w (.slice x.a x.n x.c) (Z4w x.m)
 pub:∀ k,(Value.slice x.a x.n x.c).ownBlock=some k→own k=0∧k<w.heap.size
theorem rdB.same {w w':World} {v:Value} {l:List UInt8} (h:rdB w v l) (hb:∀ k,v.ownBlock=some k→w'.heap[k]?=w.heap[k]?):rdB w' v l:=by
 obtain⟨a,cap,rfl,hl,hc,ha⟩:=h
 exact⟨a,cap,rfl,hl,hc,fun h0=>by
  obtain⟨b,off,rfl,hcl⟩:=ha h0
  exact⟨b,off,rfl,fun j hj=>by rw [← hcl j hj];exact World.cell?_of_block (w:=w) (a:=⟨b,off+j,none⟩) (hb b rfl)⟩⟩
structure WlAt where
 wb:Nat
 nb:Nat
 nv:Value
 nd:Nat→NdAt
 cb:Nat→Nat
abbrev KI (i:Nat):Nat:=16*(i+1)
def Z0i (W:Wl) (i:Nat):Pr:=W.ps.getD (i-1) pr0
def wlL (n:Int) (x c:Nat→Value) (b d:Nat→Int) (nb:Nat) (real:Int):List Value:=
 [.int .i64 n, .pointer none, .pointer none, .int .i64 0, .int .i64 0,x 1,c 1, .int .i64 (b 1), .int .i64 (d 1),x 2,c 2, .int .i64 (b 2), .int .i64 (d 2),x 3,c 3, .int .i64 (b 3), .int .i64 (d 3),x 4,c 4, .int .i64 (b 4), .int .i64 (d 4),
  x 5,c 5, .int .i64 (b 5), .int .i64 (d 5),x 6,c 6, .int .i64 (b 6), .int .i64 (d 6),x 7,c 7, .int .i64 (b 7), .int .i64 (d 7),Z09 nb, .int .i64 real]
theorem Z46 {n n':Int} {x x' c c':Nat→Value} {b b' d d':Nat→Int} {nb nb':Nat} {real real':Int} (h0:n=n') (h1:∀ j,1≤j→j≤7→x j=x' j∧c j=c' j∧b j=b' j∧d j=d' j) (h2:nb=nb') (h3:real=real'):wlL n x c b d nb real=wlL n' x' c' b' d' nb' real':=by
 unfold wlL
 rw [h0,h2,h3,(h1 1 (by omega) (by omega)).1,(h1 2 (by omega) (by omega)).1,(h1 3 (by omega) (by omega)).1,(h1 4 (by omega) (by omega)).1,(h1 5 (by omega) (by omega)).1,(h1 6 (by omega) (by omega)).1,(h1 7 (by omega) (by omega)).1,
  (h1 1 (by omega) (by omega)).2.1,(h1 2 (by omega) (by omega)).2.1,(h1 3 (by omega) (by omega)).2.1,(h1 4 (by omega) (by omega)).2.1,(h1 5 (by omega) (by omega)).2.1,(h1 6 (by omega) (by omega)).2.1,(h1 7 (by omega) (by omega)).2.1,
  (h1 1 (by omega) (by omega)).2.2.1,(h1 2 (by omega) (by omega)).2.2.1,(h1 3 (by omega) (by omega)).2.2.1,(h1 4 (by omega) (by omega)).2.2.1,(h1 5 (by omega) (by omega)).2.2.1,(h1 6 (by omega) (by omega)).2.2.1,(h1 7 (by omega) (by omega)).2.2.1,
  (h1 1 (by omega) (by omega)).2.2.2,(h1 2 (by omega) (by omega)).2.2.2,(h1 3 (by omega) (by omega)).2.2.2,(h1 4 (by omega) (by omega)).2.2.2,(h1 5 (by omega) (by omega)).2.2.2,(h1 6 (by omega) (by omega)).2.2.2,(h1 7 (by omega) (by omega)).2.2.2]
def Z67 {α:Type} (f:Nat→α) (i:Nat) (v:α):Nat→α:=fun j=>if j=i then v else f j
theorem Z13 {α:Type} (f:Nat→α) (i:Nat) (v:α):Z67 f i v i=v:=if_pos rfl
theorem Z21 {α:Type} {f:Nat→α} {i j:Nat} {v:α} (h:j≠i):Z67 f i v j=f j:=if_neg h
def xV (A:WlAt) (W:Wl) (i:Nat):Value:=Z3f ((Z0i W i).s.map fun _=>(A.nd i).b)
def cV (A:WlAt) (W:Wl) (i:Nat):Value:=Z3f ((Z0i W i).s.map fun _=>A.cb i)
def wlC (A:WlAt) (W:Wl):Array Value:=(wlL W.n (xV A W) (cV A W) (fun i=>(Z0i W i).boot) (fun i=>(Z0i W i).dv) A.nb W.real).toArray
section
variable {n:Int} {x c:Nat→Value} {b d:Nat→Int} {nb:Nat} {real:Int} {i:Nat}
theorem wlL_x (h1:1≤i) (h7:i≤7):(wlL n x c b d nb real).toArray[1+4*i]?=some (x i):=by
 rcases (by omega:i=1∨i=2∨i=3∨i=4∨i=5∨i=6∨i=7) with rfl | rfl | rfl | rfl | rfl | rfl | rfl<;>rfl
theorem wlL_c (h1:1≤i) (h7:i≤7):(wlL n x c b d nb real).toArray[2+4*i]?=some (c i):=by
 rcases (by omega:i=1∨i=2∨i=3∨i=4∨i=5∨i=6∨i=7) with rfl | rfl | rfl | rfl | rfl | rfl | rfl<;>rfl
theorem wlL_b (h1:1≤i) (h7:i≤7):(wlL n x c b d nb real).toArray[3+4*i]?=some (.int .i64 (b i)):=by
 rcases (by omega:i=1∨i=2∨i=3∨i=4∨i=5∨i=6∨i=7) with rfl | rfl | rfl | rfl | rfl | rfl | rfl<;>rfl
theorem wlL_d (h1:1≤i) (h7:i≤7):(wlL n x c b d nb real).toArray[4+4*i]?=some (.int .i64 (d i)):=by
 rcases (by omega:i=1∨i=2∨i=3∨i=4∨i=5∨i=6∨i=7) with rfl | rfl | rfl | rfl | rfl | rfl | rfl<;>rfl
theorem Zeu (h1:1≤i) (h7:i≤7) (v:Value):(wlL n x c b d nb real).toArray.setIfInBounds (1+4*i) v=(wlL n (Z67 x i v) c b d nb real).toArray:=by
 rcases (by omega:i=1∨i=2∨i=3∨i=4∨i=5∨i=6∨i=7) with rfl | rfl | rfl | rfl | rfl | rfl | rfl<;>rfl
theorem Zev (h1:1≤i) (h7:i≤7) (v:Value):(wlL n x c b d nb real).toArray.setIfInBounds (2+4*i) v=(wlL n x (Z67 c i v) b d nb real).toArray:=by
 rcases (by omega:i=1∨i=2∨i=3∨i=4∨i=5∨i=6∨i=7) with rfl | rfl | rfl | rfl | rfl | rfl | rfl<;>rfl
theorem wlL_setb (h1:1≤i) (h7:i≤7) (v:Int):(wlL n x c b d nb real).toArray.setIfInBounds (3+4*i) (.int .i64 v)=(wlL n x c (Z67 b i v) d nb real).toArray:=by
 rcases (by omega:i=1∨i=2∨i=3∨i=4∨i=5∨i=6∨i=7) with rfl | rfl | rfl | rfl | rfl | rfl | rfl<;>rfl
theorem Z9l (h1:1≤i) (h7:i≤7) (v:Int):(wlL n x c b d nb real).toArray.setIfInBounds (4+4*i) (.int .i64 v)=(wlL n x c b (Z67 d i v) nb real).toArray:=by
 rcases (by omega:i=1∨i=2∨i=3∨i=4∨i=5∨i=6∨i=7) with rfl | rfl | rfl | rfl | rfl | rfl | rfl<;>rfl
end
theorem Z3q (W:Wl) (i:Nat) (s:Nd) (h1:1≤i) (hl:i≤W.ps.length) (j:Nat) (hj:1≤j):Z0i (W.put i s) j=if j=i then { Z0i W i with s:=some s,dv:=s.dv } else Z0i W j:=by
 unfold Z0i Wl.put
 dsimp only
 have e:((i:Int)-1).toNat=i-1:=by omega
 rw [e]
 by_cases hji:j=i
 ·subst hji
  rw [List.getD_eq_getElem?_getD,List.getElem?_modify,List.getElem?_eq_getElem (by omega),List.getD_eq_getElem?_getD,List.getElem?_eq_getElem (by omega)]
  simp
 ·have hn:¬ (i-1=j-1):=by omega
  rw [List.getD_eq_getElem?_getD,List.getElem?_modify,List.getD_eq_getElem?_getD]
  simp [hji,hn]
theorem Z3r {W:Wl} {i:Nat} {s:Nd} (h1:1≤i) (h:(Z0i W i).s=some s):i≤W.ps.length:=by
 unfold Z0i at h
 rcases Nat.lt_or_ge (i-1) W.ps.length with hl | hl
 ·omega
 ·rw [List.getD_eq_getElem?_getD,List.getElem?_eq_none hl] at h
  cases h
section
variable {own own':Nat→Nat} {K:Nat} {w w':World} {a:NdAt} {s:Nd} {J:Nat→Prop}
theorem NdR.moved (h:NdR own K w a s []) (ho:a.ov=.slice none 0 0) (t:Turn J own own' w w') (hJ:∀ i,J i→i<K∨K+12<i) (cs':Array Value) (hsz:a.od+1<cs'.size) (h1:own' a.dk=1)
  (hp:w'.heap[a.dk]?=some (.cells (cs'.setIfInBounds (a.od+1) (.int .i64 s.dv)) a.T (0,0))):NdR own' K w' { a with cs:=cs' } s []:=by
 have hk:=h.k16
 have no:∀ i,i≤12→¬ J (K+i):=fun i hi hj=>by have:=hJ _ hj;omega
 refine⟨t.new,hk,(t.old _ h.b_lt).trans h.ob,h1,hsz,hp,Z5w t (no 1 (by omega)) h.gm,fun e=>Z5x t (no 2 (by omega)) (h.jn e),
  Z5r h.wf t (by omega) (no 3 (by omega)) h.lg,Z5s h.wf t (by omega) (no 4 (by omega)) h.pn,Z5t h.wf t (by omega) (no 5 (by omega)) h.rq,Z5v t (no 6 (by omega)) h.tt,
  Z5u h.wf t (by omega) (no 7 (by omega)) h.pf,Z28 h.wf t (no 8 (by omega)) (no 9 (by omega)) h.vt,Z29 t (no 10 (by omega)) h.qm,Z1f t (no 11 (by omega)) h.ask,?_⟩
 show ownG Z23 w' 0 37 a.ov []∧(∀ k,a.ov.ownBlock=some k→own' k=K+12)∧_
 rw [ho]
 exact⟨Z12 _ _ _ _,fun k hk=>(by cases hk),fun x hx=>(by cases hx)⟩
theorem NdO.moved (h:NdO own K w a s []) (ho:a.ov=.slice none 0 0) (t:Turn J own own' w w') (hJ:∀ i,J i→i<K∨K+12<i) (cs':Array Value) (hsz:a.od+1<cs'.size) (h1:own' a.dk=1)
  (hp:w'.heap[a.dk]?=some (.cells (cs'.setIfInBounds (a.od+1) (.int .i64 s.dv)) a.T (0,0))):NdO own' K w' { a with cs:=cs' } s []:=
 ⟨t.pub h.blk (by rw [h.r.ob];intro hj;have:=hJ _ hj;omega),h.ears,h.r.moved ho t hJ cs' hsz h1 hp⟩
end
structure PrO (own:Nat→Nat) (w:World) (A:WlAt) (W:Wl) (i:Nat) (s:Nd):Prop where
 nd:NdO own (KI i) w { A.nd i with cs:=wlC A W } s []
 dk:(A.nd i).dk=A.wb
 od:(A.nd i).od=3+4*i
 T:(A.nd i).T=149
 ov:(A.nd i).ov=.slice none 0 0
 co:own (A.cb i)=KI i+13
 ct:ctO w (A.cb i) (Z09 (A.nd i).b) (Z0i W i).seen (Z0i W i).lost
 dv:(Z0i W i).dv=s.dv
structure NtO (own:Nat→Nat) (w:World) (nb:Nat) (nv:Value) (l:List Ms):Prop where
 ob:own nb=2
 blk:w.heap[nb]?=some (.cells #[nv] 154 (0,0))
 row:∃ ms:List MlS,ms.map MlS.m=l∧ownG Z2h w 0 156 nv ms∧∀ x ∈ ms,MlOk own w x
 rb:∀ k,nv.ownBlock=some k→own k=3
structure WlO (own:Nat→Nat) (w0 w:World) (A:WlAt) (W:Wl):Prop where
 low:∀ c,c<w0.heap.size→own c=0
 bel:Below w0.heap.size w0 w
 m0:∃ m,w0.cell? ⟨0,0,none⟩=some (.int .i64 m)
 wf:∀ c,w.heap.size≤c→own c=0
 ob:own A.wb=1
 blk:w.heap[A.wb]?=some (.cells (wlC A W) 149 (0,0))
 n3:3≤W.n
 n7:W.n≤7
 len:(W.ps.length:Int)=W.n
 pr:∀ i s,1≤i→(Z0i W i).s=some s→PrO own w A W i s
 nt:NtO own w A.nb A.nv W.net
abbrev JW:Nat→Prop:=fun o=>(1≤o∧o≤3)∨(32≤o∧o≤160)
structure KeepW (own own':Nat→Nat) (w w':World):Prop where
 size:w.heap.size≤w'.heap.size
 keep:∀ c,c<w.heap.size→¬ JW (own c)→own' c=own c∧w'.heap[c]?=w.heap[c]?
theorem KeepW.refl (own:Nat→Nat) (w:World):KeepW own own w w:=⟨Nat.le_refl _,fun c _ h=>⟨rfl,rfl⟩⟩
theorem KeepW.trans {o1 o2 o3:Nat→Nat} {a b c:World} (h:KeepW o1 o2 a b) (k:KeepW o2 o3 b c):KeepW o1 o3 a c:=
 ⟨Nat.le_trans h.size k.size,fun x hx ho=>by
  obtain⟨h1,h2⟩:=h.keep x hx ho
  obtain⟨k1,k2⟩:=k.keep x (Nat.lt_of_lt_of_le hx h.size) (by rw [h1];exact ho)
  exact⟨k1.trans h1,k2.trans h2⟩⟩
theorem KeepW.below {own:Nat→Nat} {w w':World} (hb:Below w.heap.size w w'):KeepW own own w w':=⟨hb.size,fun c hc _=>⟨rfl,hb.block c hc⟩⟩
theorem jw0:¬ JW 0:=by unfold JW;omega
theorem KeepW.pub {own own':Nat→Nat} {w w':World} (h:KeepW own own' w w'):Keeps own own' w w':=
 ⟨h.size,fun c hc ho=>by obtain⟨h1,h2⟩:=h.keep c hc (by rw [ho];exact jw0);exact⟨h1.trans ho,h2⟩⟩
theorem KeepW.of {J:Nat→Prop} {own own':Nat→Nat} {w w':World} (t:Turn J own own' w w') (hJ:∀ o,J o→JW o):KeepW own own' w w':=
 ⟨t.chg.size,fun c hc hn=>⟨t.old c hc,t.chg.block c hc fun h=>hn (hJ _ h)⟩⟩
end
section
open Go.RowKit
theorem Z68 {J:Nat→Prop} {own own':Nat→Nat} {w w':World} (t:Turn J own own' w w') (h0:¬ J 0):Keeps own own' w w':=
 ⟨t.chg.size,fun c hc ho=>⟨(t.old c hc).trans ho,t.chg.block c hc (by rw [ho];exact h0)⟩⟩
theorem MlOk.keep {own own':Nat→Nat} {w w':World} {x:MlS} (h:MlOk own w x) (k:Keeps own own' w w'):MlOk own' w' x:=
 ⟨h.rd.same fun c hc=>(k.keep c (h.pub c hc).2 (h.pub c hc).1).2,fun c hc=>⟨(k.keep c (h.pub c hc).2 (h.pub c hc).1).1,Nat.lt_of_lt_of_le (h.pub c hc).2 k.size⟩⟩
section
variable {own own' own2:Nat→Nat} {w0 w w':World} {A A':WlAt} {W W':Wl} {i j:Nat} {s s':Nd} {J:Nat→Prop} {nb:Nat} {nv:Value} {l:List Ms}
theorem NtO.turn (h:NtO own w nb nv l) (t:Turn J own own' w w') (h0:¬ J 0) (h2:¬ J 2) (h3:¬ J 3):NtO own' w' nb nv l:=by
 obtain⟨h1,hb,⟨ms,e,ho,hm⟩,hr⟩:=h
 refine⟨(t.old _ (Z04 hb)).trans h1,Z0g hb t.chg (by rw [h1];exact h2),⟨ms,e,ho.chg _ t.chg fun k hk=>by show ¬ J (own k);rw [hr k hk];exact h3,fun x hx=>(hm x hx).keep (Z68 t h0)⟩,fun k hk=>(t.old k (ho.lt _ k hk).2).trans (hr k hk)⟩
theorem NtO.relab (h:NtO own w nb nv l) (hK:∀ c,c<w.heap.size→own c=0∨own c=2∨own c=3→own2 c=own c):NtO own2 w nb nv l:=by
 obtain⟨h1,hb,⟨ms,e,ho,hm⟩,hr⟩:=h
 exact⟨(hK _ (Z04 hb) (.inr (.inl h1))).trans h1,hb,⟨ms,e,ho,fun x hx=>⟨(hm x hx).rd,fun c hc=>⟨(hK c ((hm x hx).pub c hc).2 (.inl ((hm x hx).pub c hc).1)).trans ((hm x hx).pub c hc).1,((hm x hx).pub c hc).2⟩⟩⟩,fun k hk=>(hK k (ho.lt _ k hk).2 (.inr (.inr (hr k hk)))).trans (hr k hk)⟩
theorem Zju {α:Type} (f:Nat→α) (i:Nat):Z67 f i (f i)=f:=by
 funext j;unfold Z67;split
 ·next e=>rw [e]
 ·rfl
theorem Zew (A:WlAt) (W:Wl) (h1:1≤i) (h7:i≤7):(wlC A W).setIfInBounds (4+4*i) (.int .i64 (Z0i W i).dv)=wlC A W:=by
 unfold wlC
 rw [Z9l h1 h7]
 rw [Zju (fun i=>(Z0i W i).dv) i]
theorem PrO.lt7 (h7:W.n≤7) (hl:(W.ps.length:Int)=W.n) (h1:1≤i) (hs:(Z0i W i).s=some s):i≤7:=by have:=Z3r h1 hs;omega
theorem PrO.turn (h:PrO own w A W i s) (hi1:1≤i) (hi7:i≤7) (t:Turn J own own' w w') (hJ:∀ o,J o→o<KI i∨KI i+13<o) (hwb:A'.wb=A.wb) (hnd:A'.nd i=A.nd i) (hcb:A'.cb i=A.cb i) (hpr:Z0i W' i=Z0i W i) (h1:own' A.wb=1)
  (hblk:w'.heap[A'.wb]?=some (.cells (wlC A' W') 149 (0,0))):PrO own' w' A' W' i s:=by
 have hk:=h.co
 refine⟨?_,by rw [hnd,hwb];exact h.dk,by rw [hnd];exact h.od,by rw [hnd];exact h.T,by rw [hnd];exact h.ov,?_,?_,by rw [hpr];exact h.dv⟩
 ·rw [hnd]
  refine h.nd.moved h.ov t (fun o ho=>by have:=hJ o ho;omega) (wlC A' W') ?_ ?_ ?_
  ·show (A.nd i).od+1<35
   rw [h.od];omega
  ·show own' (A.nd i).dk=1
   rw [h.dk];exact h1
  ·show w'.heap[(A.nd i).dk]?=some (.cells ((wlC A' W').setIfInBounds ((A.nd i).od+1) (.int .i64 s.dv)) (A.nd i).T (0,0))
   rw [h.dk,h.od,h.T,← h.dv,← hpr,show 3+4*i+1=4+4*i by omega,Zew A' W' hi1 hi7,← hwb]
   exact hblk
 ·rw [hcb];exact (t.old _ (Z04 h.ct)).trans hk
 ·rw [hcb,hnd,hpr]
  exact Z0g h.ct t.chg (by rw [hk];intro hj;have:=hJ _ hj;omega)
theorem PrO.relab (h:PrO own w A W i s) (wf':∀ c,w.heap.size≤c→own2 c=0) (hK:∀ c,own c=1∨(KI i≤own c∧own c≤KI i+13∧c<w.heap.size)→own2 c=own c):PrO own2 w A W i s:=
 ⟨⟨h.nd.blk,h.nd.ears,h.nd.r.relab h.ov wf' fun c hc=>hK c (by
   rcases hc with hc | hc
   ·exact .inl hc
   ·rcases Nat.lt_or_ge c w.heap.size with hl | hl
    ·exact .inr ⟨hc.1,by omega,hl⟩
    ·have:=h.nd.wf c hl;unfold KI at hc;omega)⟩,h.dk,h.od,h.T,h.ov,(hK _ (.inr ⟨by rw [h.co];omega,by rw [h.co];omega,Z04 h.ct⟩)).trans h.co,h.ct,h.dv⟩
theorem WlO.grow (h:WlO own w0 w A W) (hb:Below w.heap.size w w'):WlO own w0 w' A W:=by
 have t:Turn (fun _=>False) own own w w':=.grow hb h.wf
 exact⟨h.low,h.bel.trans (hb.mono h.bel.size),h.m0,fun c hc=>h.wf c (Nat.le_trans hb.size hc),h.ob,Z02 h.blk hb,h.n3,h.n7,h.len,fun i s h1 hs=>(h.pr i s h1 hs).turn h1 (PrO.lt7 h.n7 h.len h1 hs) t (fun _ h=>h.elim) rfl rfl rfl rfl h.ob (Z02 h.blk hb),h.nt.turn t (fun h=>h) (fun h=>h) (fun h=>h)⟩
theorem WlO.m (h:WlO own w0 w A W):M0 own w:=by
 obtain⟨m,hm⟩:=h.m0
 have hl:=Z0f hm
 exact⟨h.low 0 hl,m,by rw [h.bel.cell hl];exact hm⟩
theorem WlO.bel' (h:WlO own w0 w A W) (t:Turn J own own' w w') (h0:¬ J 0):Below w0.heap.size w0 w':=
 h.bel.trans ⟨t.chg.os,t.chg.tape,t.chg.output,t.chg.size,fun k hk=>t.chg.block k (Nat.lt_of_lt_of_le hk h.bel.size) (by rw [h.low k hk];exact h0)⟩
structure SameA (A A':WlAt):Prop where
 wb:A'.wb=A.wb
 nb:A'.nb=A.nb
 cb:A'.cb=A.cb
 b:∀ i,(A'.nd i).b=(A.nd i).b
theorem SameA.refl (A:WlAt):SameA A A:=⟨rfl,rfl,rfl,fun _=>rfl⟩
theorem SameA.trans {B C:WlAt} (h:SameA A B) (k:SameA B C):SameA A C:=⟨k.wb.trans h.wb,k.nb.trans h.nb,k.cb.trans h.cb,fun i=>(k.b i).trans (h.b i)⟩
theorem KI_far (h:i≠j) (o:Nat) (ho:JK (KI i) o):o<KI j∨KI j+13<o:=by
 unfold JK at ho;unfold KI at *;omega
theorem WlO.step (h:WlO own w0 w A W) (hi:1≤i) (hs:(Z0i W i).s=some s) {a':NdAt} (h':NdO own' (KI i) w' a' s' []) (e:At0 { A.nd i with cs:=wlC A W } a') (t:Turn (JK (KI i)) own own' w w') (ov:a'.ov=.slice none 0 0) :
  WlO (Z7z own' (KI i)) w0 w' { A with nd:=Z67 A.nd i a' } (W.put i s')∧KeepW own (Z7z own' (KI i)) w w'∧SameA A { A with nd:=Z67 A.nd i a' }:=by
 have f0:=PrO.lt7 h.n7 h.len hi hs
 have i0:=Z3r hi hs
 have hP:=h.pr i s hi hs
 have h0:¬ JK (KI i) 0:=jk0 (by unfold KI;omega)
 have d0:=fun j hj=>Z3q W i s' hi i0 j hj
 have b0:w'.heap[A.wb]?=some (.cells (wlC { A with nd:=Z67 A.nd i a' } (W.put i s')) 149 (0,0)):=by
  have hd:=h'.r.dsk
  rw [e.dk,e.od,e.cs,e.T] at hd
  have hd:w'.heap[(A.nd i).dk]?=some (.cells ((wlC A W).setIfInBounds ((A.nd i).od+1) (.int .i64 s'.dv)) (A.nd i).T (0,0)):=hd
  rw [hP.dk,hP.od,hP.T,show 3+4*i+1=4+4*i by omega] at hd
  rw [hd]
  unfold wlC
  rw [Z9l hi f0]
  congr 3
  refine Z46 rfl (fun j h1 h7=>?_) rfl rfl
  unfold xV cV
  dsimp only
  rw [d0 j h1]
  by_cases hj:j=i
  ·subst hj
   rw [if_pos rfl,Z13,Z13,hs]
   exact⟨by show Z3f (some (A.nd j).b)=Z3f (some a'.b);rw [e.b],rfl,rfl,rfl⟩
  ·rw [if_neg hj,Z21 hj,Z21 hj]
   exact⟨rfl,rfl,rfl,rfl⟩
 have c0:own' A.wb=1:=(t.old _ (Z04 h.blk)).trans h.ob
 have hKI:32≤KI i∧KI i≤128:=by unfold KI;omega
 have rn:∀ {c o:Nat},own' c=o→o≠KI i+12→Z7z own' (KI i) c=o:=fun h hn=>Z1s h hn
 have wf2:∀ c,w'.heap.size≤c→Z7z own' (KI i) c=0:=fun c hc=>rn (t.new c hc) (by omega)
 refine⟨⟨fun c hc=>rn ((t.old c (Nat.lt_of_lt_of_le hc h.bel.size)).trans (h.low c hc)) (by omega),h.bel' t h0,h.m0,wf2,rn c0 (by omega),b0,h.n3,h.n7,?_,?_,?_⟩,⟨t.chg.size,fun c hc hn=>?_⟩,⟨rfl,rfl,rfl,fun j=>?_⟩⟩
 ·show (((W.ps.modify _ _).length:Nat):Int)=W.n
  rw [List.length_modify];exact h.len
 ·intro j s2 hj a0
  rw [d0 j hj] at a0
  by_cases hji:j=i
  ·subst hji
   rw [if_pos rfl] at a0
   have a0:some s'=some s2:=a0
   injection a0 with a0
   subst a0
   have hN:NdO (Z7z own' (KI j)) (KI j) w' a' s' []:=⟨h'.blk,h'.ears,h'.r.rel ov⟩
   refine⟨?_,?_,?_,?_,?_,?_,?_,?_⟩
   ·show NdO _ _ w' { Z67 A.nd j a' j with cs:=_ } s' []
    rw [Z13]
    refine hN.moved ov (J:=fun _=>False) (Turn.same (Chg.refl _ _) wf2) (fun _ h=>h.elim) _ ?_ ?_ ?_
    ·rw [e.od];show (A.nd j).od+1<35;rw [hP.od];omega
    ·rw [e.dk];show Z7z own' (KI j) (A.nd j).dk=1;rw [hP.dk];exact rn c0 (by omega)
    ·rw [e.dk,e.od,e.T]
     show w'.heap[(A.nd j).dk]?=some (.cells (Array.setIfInBounds _ ((A.nd j).od+1) _) (A.nd j).T (0,0))
     rw [hP.dk,hP.od,hP.T,show 3+4*j+1=4+4*j by omega]
     have e0:=Zew (i:=j) { A with nd:=Z67 A.nd j a' } (W.put j s') hi f0
     rw [d0 j hj,if_pos rfl] at e0
     have e0:(wlC { A with nd:=Z67 A.nd j a' } (W.put j s')).setIfInBounds (4+4*j) (.int .i64 s'.dv)=_:=e0
     rw [e0]
     exact b0
   ·show (Z67 A.nd j a' j).dk=A.wb
    rw [Z13,e.dk];exact hP.dk
   ·show (Z67 A.nd j a' j).od=_
    rw [Z13,e.od];exact hP.od
   ·show (Z67 A.nd j a' j).T=_
    rw [Z13,e.T];exact hP.T
   ·show (Z67 A.nd j a' j).ov=_
    rw [Z13];exact ov
   ·exact rn ((t.old _ (Z04 hP.ct)).trans hP.co) (by omega)
   ·show ctO w' (A.cb j) (Z09 (Z67 A.nd j a' j).b) (Z0i (W.put j s') j).seen (Z0i (W.put j s') j).lost
    rw [Z13,d0 j hj,if_pos rfl,e.b]
    exact Z0g hP.ct t.chg (by rw [hP.co];unfold JK;omega)
   ·rw [d0 j hj,if_pos rfl]
  ·rw [if_neg hji] at a0
   have g0:=PrO.lt7 h.n7 h.len hj a0
   have h1:=(h.pr j s2 hj a0).turn (A':={ A with nd:=Z67 A.nd i a' }) (W':=W.put i s') hj g0 t (KI_far (Ne.symm hji)) rfl (Z21 hji) rfl (by rw [d0 j hj,if_neg hji]) c0 b0
   refine h1.relab wf2 fun c hc=>Z1s rfl ?_
   rcases hc with hc | hc
   ·omega
   ·unfold KI at *;omega
 ·exact (h.nt.turn t h0 (by unfold JK;omega) (by unfold JK;omega)).relab fun c _ hc=>Z1s rfl (by omega)
 ·have h1:=t.old c hc
  exact⟨Z1s h1 (fun e=>hn (by rw [e];unfold JW;omega)),t.chg.block c hc fun hj=>hn (by unfold JK at hj;unfold JW;omega)⟩
 ·show (Z67 A.nd i a' j).b=(A.nd j).b
  by_cases hji:j=i
  ·subst hji;rw [Z13];exact e.b
  ·rw [Z21 hji]
theorem Given.pubK {K:Nat} {v:Value} {o:List MsS} (hk:16≤K) (h:Given own K w v o):pubM (Z7z own K) w v o:=
 ⟨h.row.rd Z23,fun k hk'=>⟨by unfold Z7z;rw [if_pos (h.blk k hk')],(h.row.lt Z23 k hk').2⟩,fun x hx=>⟨(h.ents x hx).1,fun h0 k hk'=>Zas ((h.ents x hx).2 h0 k hk') hk⟩⟩
theorem WlO.net (h:WlO own w0 w A W) (t:Turn (fun o=>o=2∨o=3) own own' w w') (hn:NtO own' w' A.nb nv l):WlO own' w0 w' { A with nv:=nv } { W with net:=l }∧KeepW own own' w w':=by
 have hb:w'.heap[A.wb]?=some (.cells (wlC A W) 149 (0,0)):=Z0g h.blk t.chg (by rw [h.ob];omega)
 have ho:own' A.wb=1:=(t.old _ (Z04 h.blk)).trans h.ob
 exact⟨⟨fun c hc=>(t.old c (Nat.lt_of_lt_of_le hc h.bel.size)).trans (h.low c hc),h.bel' t (by omega),h.m0,t.new,ho,hb,h.n3,h.n7,h.len,fun i s h1 hs=>(h.pr i s h1 hs).turn (A':={ A with nv:=nv }) (W':={ W with net:=l }) h1 (PrO.lt7 h.n7 h.len h1 hs) t (fun o ho=>by unfold KI;omega) rfl rfl rfl rfl ho hb,hn⟩,
  .of t fun o ho=>by unfold JW;omega⟩
theorem WlO.own1 (h:WlO own w0 w A W) (t:Turn (fun o=>o=1) own own' w w') (hb:w'.heap[A.wb]?=some (.cells (wlC A W') 149 (0,0))) (hn:W'.n=W.n) (hl:W'.ps.length=W.ps.length) (hnet:W'.net=W.net)
  (hp:∀ i s,1≤i→(Z0i W' i).s=some s→Z0i W' i=Z0i W i):WlO own' w0 w' A W'∧KeepW own own' w w':=by
 have ho:own' A.wb=1:=(t.old _ (Z04 h.blk)).trans h.ob
 refine⟨⟨fun c hc=>(t.old c (Nat.lt_of_lt_of_le hc h.bel.size)).trans (h.low c hc),h.bel' t (by omega),h.m0,t.new,ho,hb,by rw [hn];exact h.n3,by rw [hn];exact h.n7,by rw [hn,hl];exact h.len,fun i s h1 hs=>?_,by rw [hnet];exact h.nt.turn t (by omega) (by omega) (by omega)⟩,
  .of t fun o ho=>by unfold JW;omega⟩
 have e:=hp i s h1 hs
 have a0:(Z0i W i).s=some s:=by rw [← e];exact hs
 exact (h.pr i s h1 a0).turn h1 (PrO.lt7 h.n7 h.len h1 a0) t (fun o ho=>by unfold KI;omega) rfl rfl rfl e ho hb
end
end
section
open Go.RowKit
theorem Zex {m:Ms} (h:MayM m):(Z4w m).length≤100000:=by
 unfold Z4w
 rw [Z2r,List.length_append]
 have h1:=Z14 (Z95 m)
 have h2:=Z2v m.ents (Z59 h)
 have h3:=h.e1
 rw [Zim] at h1
 omega
theorem Zey:(Tryz.prog.info? 156).map (fun i=>(i.zero,i.size,i.bytes))=some (some (.agg #[.int .i64 0, .slice none 0 0]),2,32):=by kernel_rfl
section
variable {own:Nat→Nat} {w:World} {nb:Nat} {nv:Value} {l:List Ms}
theorem NtO.len (h:NtO own w nb nv l):∃ a c,nv=.slice a l.length c∧c≤maxLen∧l.length≤c∧(0<l.length→∃ g,a=some ⟨g,0,none⟩∧g<w.heap.size):=by
 obtain⟨_,_,⟨ms,e,ho,_⟩,_⟩:=h
 have hl:ms.length=l.length:=by rw [← e,List.length_map]
 obtain⟨h1,⟨hv,h0⟩ | ⟨g,a0,cur,hv,hb,hg,hn,hc,hs,ht⟩⟩:=ho
 ·refine⟨none,0,?_,Nat.zero_le _,by omega,fun h=>by omega⟩
  rw [hv,← hl,h0]
 ·refine⟨some ⟨g,0,none⟩,a0,by rw [hv,hl],hc,by omega,fun _=>⟨g,rfl,Z04 hg⟩⟩
theorem NtO.at (h:NtO own w nb nv l) {g c:Nat} (e:nv=.slice (some ⟨g,0,none⟩) l.length c) (k:Nat) (hk:k<l.length):∃ x:MlS,x.m=l[k]∧MlOk own w x∧w.cell? ⟨g,k*2,none⟩=some (.int .i64 l[k].too)∧w.cell? ⟨g,k*2+1,none⟩=some (.slice x.a x.n x.c):=by
 obtain⟨_,_,⟨ms,hm,ho,b0⟩,_⟩:=h
 subst hm
 have hr:=ho.rd Z2h
 obtain⟨a,cap,hv,_,_,ha⟩:=hr
 rw [List.length_map] at hk e
 rw [e] at hv
 cases hv
 obtain⟨g',off,e2,hc⟩:=ha (by omega)
 have a0:g'=g∧off=0:=by injection e2 with e2;injection e2 with e3 e4;exact⟨e3.symm,e4.symm⟩
 obtain⟨rfl,rfl⟩:=a0
 have h1:=hc k hk
 refine⟨ms[k],by rw [List.getElem_map],b0 _ (List.getElem_mem hk),?_,?_⟩
 ·have:=h1 0 (.int .i64 ms[k].m.too) rfl
  rw [List.getElem_map]
  rw [show 0+k*Z2h.size+0=k*2 from by show 0+k*2+0=k*2;omega] at this
  exact this
 ·have:=h1 1 (.slice ms[k].a ms[k].n ms[k].c) rfl
  rw [show 0+k*Z2h.size+1=k*2+1 from by show 0+k*2+1=k*2+1;omega] at this
  exact this
theorem NtO.c0 (h:NtO own w nb nv l):w.cell? ⟨nb,0,none⟩=some nv:=Z00 h.blk 0
theorem Zjv (h:NtO own w nb nv l):Calls Tryz.prog 52 #[Z09 nb] w fun r w'=>r=.returned (.int .i64 l.length)∧w=w':=by
 have c0:=h.c0
 have hl:=Z04 h.blk
 obtain⟨a,c,rfl,_⟩:=h.len
 clear h
 go_enter Tryz.func52,Tryz.ntmps52
 go_wp2
 go_ret
 exact⟨rfl,rfl⟩
theorem Z5e (h:NtO own w nb nv l) (i:Int):Calls Tryz.prog 108 #[Z09 nb, .int .i64 i] w fun r w'=>r=.returned (.bool (decide (0≤i)&&decide (i<(l.length:Int))))∧Below w.heap.size w w':=by
 have hL:=hd_ (Zjv h)
 replace h:=hd_ h
 by_cases h0:0≤i
 ·have e0:decide (0≤i)=true:=decide_eq_true h0
  rw [e0,Bool.true_and]
  go_enter Tryz.func108,Tryz.ntmps108
  go_wp2_with fail
  refine hL.out.mono ?_
  rintro r w1 ⟨rfl,rfl⟩;go_wp2
  go_ret
  exact⟨Z0b (by simp<;>omega),Below.refl _ _⟩
 ·have e0:decide (0≤i)=false:=decide_eq_false h0
  rw [e0,Bool.false_and]
  go_enter Tryz.func108,Tryz.ntmps108
  go_wp2
  go_ret
  exact⟨Z0b (by simp<;>omega),Below.refl _ _⟩
end
end
section
open Go.RowKit
section
variable {own:Nat→Nat} {w:World} {nb:Nat} {nv:Value} {l:List Ms}
theorem Zm3 (h:NtO own w nb nv l) (k:Nat) (hk:k<l.length):Calls Tryz.prog 53 #[Z09 nb, .int .i64 k] w fun r w'=>r=.returned (.int .i64 l[k].too)∧Below w.heap.size w w':=by
 have hH:=Z5e h k
 rw [decide_eq_true (show (0:Int)≤(k:Int) by omega),decide_eq_true (show (k:Int)<(l.length:Int) by omega)] at hH
 replace hH:=hd_ hH
 have b0:=hd_ h.len
 obtain⟨x,hx⟩:∃ x,x=l[k].too:=⟨_,rfl⟩
 have d0:∀ {g c:Nat},nv=.slice (some ⟨g,0,none⟩) l.length c→w.cell? ⟨g,k*2,none⟩=some (.int .i64 x):=fun e=>by
  obtain⟨_,_,_,h1,_⟩:=h.at e k hk
  rw [hx];exact h1
 have c0:=h.c0
 have hl:=Z04 h.blk
 rw [← hx]
 replace hx:=hd_ hx;replace h:=hd_ h
 obtain⟨a,c,rfl,hc,hlc,hg⟩:=b0.out
 obtain⟨g,rfl,lg⟩:=hg (by omega)
 have x0:=d0 rfl
 unfold maxLen at hc
 clear d0 hg
 go_enter Tryz.func53,Tryz.ntmps53
 go_wp2_with fail
 refine hH.out.mono ?_
 rintro r w1 ⟨rfl,a0⟩
 have c1:w1.cell? ⟨nb,0,none⟩=some (.slice (some ⟨g,0,none⟩) l.length c):=by rw [a0.cell hl];exact c0
 have x1:w1.cell? ⟨g,k*2,none⟩=some (.int .i64 x):=by rw [a0.cell lg];exact x0
 have hl1:nb<w1.heap.size:=Nat.lt_of_lt_of_le hl a0.size
 have lg1:g<w1.heap.size:=Nat.lt_of_lt_of_le lg a0.size
 replace a0:=hd_ a0;clear c0 x0 hH
 simp only [Bool.and_self]
 go_wp2
 go_ret
 exact⟨rfl,a0.out⟩
theorem Zgl (h:NtO own w nb nv l) (i:Int) (hi:¬ (0≤i∧i<(l.length:Int))):Calls Tryz.prog 113 #[Z09 nb, .int .i64 i] w fun r w'=>r=.returned (.tuple #[.slice none 0 0, .bool false])∧Below w.heap.size w w':=by
 have hH:=Z5e h i
 have e:(decide (0≤i)&&decide (i<(l.length:Int)))=false:=by rw [Bool.and_eq_false_iff,decide_eq_false_iff_not,decide_eq_false_iff_not];omega
 rw [e] at hH
 replace hH:=hd_ hH;replace h:=hd_ h
 go_enter Tryz.func113,Tryz.ntmps113
 go_wp2_with fail
 refine hH.out.mono ?_
 rintro r w1 ⟨rfl,a0⟩;replace a0:=hd_ a0;go_wp2
 exact bodyPost_ret (v:=.tuple #[.slice none 0 0, .bool false]) (by simp [results,Tryz.results113,go_sem]) rfl ⟨rfl,a0.out⟩
theorem Zjw (h:NtO own w nb nv l) (hm:∀ m ∈ l,MayM m) (k:Nat) (hk:k<l.length):Calls Tryz.prog 113 #[Z09 nb, .int .i64 k] w fun r w'=>∃ v,r=.returned (.tuple #[v, .bool true])∧rdB w' v (Z4w l[k])∧(∀ j,v.ownBlock=some j→w.heap.size≤j)∧Below w.heap.size w w':=by
 have hH:=Z5e h k
 rw [decide_eq_true (show (0:Int)≤(k:Int) by omega),decide_eq_true (show (k:Int)<(l.length:Int) by omega)] at hH
 replace hH:=hd_ hH
 have f0:=hd_ h.len
 have h0:=Zex (hm l[k] (List.getElem_mem hk))
 have e0:∀ {g c:Nat},nv=.slice (some ⟨g,0,none⟩) l.length c→∃ x:MlS,rdB w (.slice x.a x.n x.c) (Z4w l[k])∧w.cell? ⟨g,k*2+1,none⟩=some (.slice x.a x.n x.c):=fun e=>by
  obtain⟨x,hx,h1,_,h2⟩:=h.at e k hk
  have h3:=h1.rd
  rw [hx] at h3
  exact⟨x,h3,h2⟩
 have c0:=h.c0
 have hl:=Z04 h.blk
 generalize Z4w l[k]=E at h0 e0 ⊢
 replace h:=hd_ h
 obtain⟨a,c,rfl,hc,hlc,hg⟩:=f0.out
 obtain⟨g,rfl,lg⟩:=hg (by omega)
 obtain⟨⟨xm,xa,xn,xc⟩,d0,x0⟩:=e0 rfl
 dsimp only at d0 x0
 unfold maxLen at hc
 replace d0:=hd_ d0;clear e0 hg
 go_enter Tryz.func113,Tryz.ntmps113
 go_wp2_with fail
 refine hH.out.mono ?_
 rintro r w1 ⟨rfl,a0⟩
 have c1:w1.cell? ⟨nb,0,none⟩=some (.slice (some ⟨g,0,none⟩) l.length c):=by rw [a0.cell hl];exact c0
 have x1:w1.cell? ⟨g,k*2+1,none⟩=some (.slice xa xn xc):=by rw [a0.cell lg];exact x0
 have hl1:nb<w1.heap.size:=Nat.lt_of_lt_of_le hl a0.size
 have lg1:g<w1.heap.size:=Nat.lt_of_lt_of_le lg a0.size
 have hC:=hd_ (Z5p (.slice xa xn xc) E w1 (d0.out.below a0) h0)
 replace a0:=hd_ a0;clear c0 x0 hH
 simp only [Bool.and_self]
 go_wp2_with fail
 refine hC.out.mono ?_
 rintro r w2 ⟨v2,rfl,b0,g0⟩
 have hB:=hd_ (a0.out.trans (g0.mono a0.out.size))
 have j0:=hd_ b0.rd
 have i0:=hd_ (show ∀ j,v2.ownBlock=some j→w.heap.size≤j from fun j hj=>by have:=(World.ownsRow.lt b0 j hj).1;have:=a0.out.size;omega)
 replace b0:=hd_ b0;clear hC g0;go_wp2
 refine bodyPost_ret (v:=.tuple #[v2, .bool true]) (by simp [results,Tryz.results113,go_sem]) rfl ?_
 exact⟨v2,rfl,j0.out,i0.out,hB.out⟩
end
end
section
open Go.RowKit
theorem Z5f {g:Nat} {E:TypeId}:∀ (vs:List Value) (o:Nat) (w:World) (cur:Array Value),w.heap[g]?=some (.cells cur E (0,0))→o+vs.length≤cur.size →
  ∃ cur',(w.setCells g o vs).heap[g]?=some (.cells cur' E (0,0))∧cur'.size=cur.size∧∀ q,cur'[q]?=if o≤q∧q<o+vs.length then vs[q-o]? else cur[q]?
 | [],o,w,cur,h,_=>⟨cur,h,rfl,fun q=>by rw [if_neg (fun h=>by have:=h.2;simp only [List.length_nil] at this;omega)]⟩
 | v :: vs,o,w,cur,h,hl=>by
   have hl':o+(vs.length+1)≤cur.size:=hl
   obtain⟨c,h1,h2,h3⟩:=Z5f vs (o+1) (w.setCell ⟨g,o,none⟩ v) _ (Z0d h) (by simp;omega)
   refine⟨c,h1,by rw [h2];simp,fun q=>?_⟩
   rw [h3 q,List.length_cons]
   by_cases hq:q=o
   ·subst hq
    rw [if_neg (by omega),if_pos (by omega),Nat.sub_self]
    rw [Array.getElem?_setIfInBounds_self_of_lt (by omega)];rfl
   ·by_cases hi:o+1≤q∧q<o+1+vs.length
    ·rw [if_pos hi,if_pos (by omega)]
     obtain⟨d,hd⟩:∃ d,q-o=d+1:=⟨q-o-1,by omega⟩
     rw [hd,List.getElem?_cons_succ,show q-(o+1)=d by omega]
    ·rw [if_neg hi,if_neg (by omega),Array.getElem?_setIfInBounds_ne (by omega)]
theorem ownG_mk {α:Type} (S:Shp α) {w:World} {g cap:Nat} {cur:Array Value} {T:TypeId} {l:List α} (hg:w.heap[g]?=some (.cells cur T (0,0))) (hs:cur.size=cap*S.size) (hn:l.length≤cap) (hM:cap≤maxLen)
  (h:∀ t (ht:t<l.length) c u,(S.cells l[t])[c]?=some u→cur[t*S.size+c]?=some u):ownG S w 0 T (.slice (some ⟨g,0,none⟩) l.length cap) l:=by
 refine⟨Z2u S l, .inr ⟨g,cap,cur,rfl,Nat.zero_le _,hg,hn,hM,hs,?_⟩⟩
 refine List.ext_getElem? fun q=>?_
 rw [List.getElem?_take]
 have hp:=S.pos
 split
 ·next hq=>
  have hd:q / S.size<l.length:=Nat.div_lt_of_lt_mul (by rw [Nat.mul_comm];exact hq)
  have hm:q % S.size<S.size:=Nat.mod_lt _ hp
  have a0:q / S.size*S.size+q % S.size=q:=by rw [Nat.mul_comm];exact Nat.div_add_mod q S.size
  have hf:=Z3d S l (q / S.size) hd (q % S.size) hm
  rw [a0] at hf
  rw [hf]
  have b0:q % S.size<(S.cells l[q / S.size]).length:=by rw [S.len];exact hm
  obtain⟨u,hu⟩:∃ u,(S.cells l[q / S.size])[q % S.size]?=some u:=⟨_,List.getElem?_eq_getElem b0⟩
  have:=h _ hd _ u hu
  rw [a0] at this
  rw [hu,Array.getElem?_toList]
  exact this
 ·next hq=>
  rw [List.getElem?_eq_none]
  rw [Z2u];omega
theorem Zjx (g cap:Nat) (ms:List MlS) (k:Nat) (w:World) (ho:ownG Z2h w 0 156 (.slice (some ⟨g,0,none⟩) ms.length cap) ms) (hk:k<ms.length) (hL:ms.length≤100000) :
  Calls Tryz.prog 191 #[.slice (some ⟨g,0,none⟩) ms.length cap, .int .i64 k, .int .i64 ((k:Int)+1)] w fun r w'=>
   r=.returned (.slice (some ⟨g,0,none⟩) (ms.length-1) cap)∧ownG Z2h w' 0 156 (.slice (some ⟨g,0,none⟩) (ms.length-1) cap) (ms.eraseIdx k)∧Chg (fun c=>c=g) w w':=by
 obtain⟨i0,hi,hz0,z0,hz2⟩:=info_parts Zey
 obtain⟨h1,⟨hv,h0⟩ | ⟨g',a1,e0,hv,hb,hg,hn,hc,hs,ht⟩⟩:=ho
 ·cases hv
 cases hv
 have hs:e0.size=cap*2:=hs
 have ht:e0.toList.take (ms.length*2)=Z1h Z2h ms:=ht
 have c0:∀ t (h:t<ms.length) c u,(Z2h.cells ms[t])[c]?=some u→e0[t*2+c]?=some u:=fun t h c u hu=>by
  have v0:c<2:=(List.getElem?_eq_some_iff.1 hu).1
  have hf:=Z3d Z2h ms t h c v0
  rw [hu,← ht] at hf
  rw [List.getElem?_take,if_pos (by show t*2+c<_;omega),Array.getElem?_toList] at hf
  exact hf
 unfold maxLen at hc
 obtain⟨n,l0⟩:∃ n,n=ms.length:=⟨_,rfl⟩
 obtain⟨news,a0⟩:∃ news,news=Z1h Z2h (ms.drop (k+1)):=⟨_,rfl⟩
 have p0:news.length=(n-(k+1))*2:=by rw [a0,Z2u,List.length_drop,l0];rfl
 have d0:∀ u ∈ news,u.oneCell'=true:=by rw [a0];exact Zah Z2h _
 have o0:∀ q,q<news.length→news[q]?=e0[(k+1)*2+q]?:=fun q hq=>by
  have hd:q / 2<(ms.drop (k+1)).length:=by rw [List.length_drop];omega
  have hm:q % 2<2:=Nat.mod_lt _ (by omega)
  have hf:=Z3d Z2h (ms.drop (k+1)) (q / 2) hd (q % 2) hm
  have c1:q / 2*Z2h.size+q % 2=q:=by show q / 2*2+q % 2=q;omega
  rw [c1,← a0,List.getElem_drop] at hf
  have hd2:k+1+q / 2<ms.length:=by rw [List.length_drop] at hd;omega
  have e1:q % 2<(Z2h.cells ms[k+1+q / 2]).length:=by rw [Z2h.len];exact hm
  obtain⟨u,hu⟩:∃ u,(Z2h.cells ms[k+1+q / 2])[q % 2]?=some u:=⟨_,List.getElem?_eq_getElem e1⟩
  rw [hf,hu,show (k+1)*2+q=(k+1+q / 2)*2+q % 2 by omega]
  exact (c0 _ _ _ u hu).symm
 have b0:∀ q,w.cell? ⟨g,q,none⟩=e0[q]?:=fun q=>Z00 hg q
 obtain⟨W1,k0⟩:∃ W1,W1=w.drew.setCells g (0+k*2) news:=⟨_,rfl⟩
 have n0:w.drew.heap[g]?=some (.cells e0 156 (0,0)):=hg
 obtain⟨q0,g1,s1,q1⟩:=Z5f news (0+k*2) w.drew e0 n0 (by omega)
 have f0:=(Z1v (E:=156) news (0+k*2) w.drew e0 n0).2
 rw [← k0] at g1 f0
 have gsome:∀ q,q<cap*2→(W1.cell? ⟨g,q,none⟩).isSome=true:=fun q hq=>by rw [Z00 g1 q,Array.getElem?_eq_getElem (by omega)];rfl
 obtain⟨zs,w0⟩:=Zaw Tryz.prog 152 156 _ [.int .i64 0, .slice none 0 0] Tryz.underlying152 (fun w=>Tryz.zeroValue156 w) rfl (by decide) (by decide) (w:=W1) (g:=g) (o:=(n-1)*2) (n:=1) (c:=cap-(n-1)) (by omega) (fun q hq=>gsome _ (by simp only [List.length_cons,List.length_nil] at hq;omega)) (fun q _=>Z03 g1 _)
 obtain⟨⟨r0,g2,s2,q2⟩,g0⟩:=Z1v zs ((n-1)*2) W1 q0 g1
 obtain⟨W2,s0⟩:∃ W2,W2=W1.setCells g ((n-1)*2) zs:=⟨_,rfl⟩
 rw [← s0] at w0 g2 g0
 have j0:Hid (ownG Z2h W2 0 156 (.slice (some ⟨g,0,none⟩) (n-1) cap) (ms.eraseIdx k)∧Chg (fun c=>c=g) w W2):=hd_ (by
  have d1:(ms.eraseIdx k).length=n-1:=by rw [List.length_eraseIdx_of_lt hk,l0]
  refine⟨?_,((Chg.of_below (F:=fun c=>c=g) (Below.refl w.heap.size w).drew).more f0 fun i e=>.inl e).more g0 fun i e=>.inl e⟩
  have:=ownG_mk Z2h (l:=ms.eraseIdx k) (cap:=cap) g2 (by rw [s2,s1];exact hs) (by omega) (by unfold maxLen;omega) (fun t htl c u hu=>by
   have v0:c<2:=(List.getElem?_eq_some_iff.1 hu).1
   show r0[t*2+c]?=some u
   rw [q2 _ (by omega),q1]
   rw [List.getElem_eraseIdx] at hu
   by_cases htk:t<k
   ·rw [dif_pos htk] at hu
    rw [if_neg (by omega)]
    exact c0 t (by omega) c u hu
   ·rw [dif_neg htk] at hu
    rw [if_pos (by omega),o0 _ (by omega),show (k+1)*2+(t*2+c-(0+k*2))=(t+1)*2+c by omega]
    exact c0 (t+1) (by omega) c u hu)
  rw [d1] at this
  exact this)
 have m0:∀ A:Addr,(A=⟨g,(k+1)*2,none⟩∨news=[])→Hid (∀ j u,news[j]?=some u→w.drew.cell? (A.add j)=some u):=fun A hA=>hd_ fun j u hu=>by
  have hj:j<news.length:=(List.getElem?_eq_some_iff.1 hu).1
  rcases hA with rfl | hA
  ·rw [Addr.add_lit]
   show w.cell? ⟨g,(k+1)*2+j,none⟩=some u
   rw [b0,← hu,o0 j hj]
  ·rw [hA] at hj;simp at hj
 have y0:Hid (∀ j,j<news.length→(w.drew.cell? ⟨g,0+k*2+j,none⟩).isSome=true∧w.drew.frozen? ⟨g,0+k*2+j,none⟩=false):=hd_ fun j hj=>by
  refine⟨?_,Z03 n0 _⟩
  show (w.cell? ⟨g,0+k*2+j,none⟩).isSome=true
  rw [b0,Array.getElem?_eq_getElem (by omega)];rfl
 rw [← l0]
 have hnB:n≤100000:=by omega
 have hkn:k<n:=by omega
 have hnc:n≤cap:=by omega
 have hnk:((n:Int)-1)=((n-1:Nat):Int):=by omega
 replace p0:=hd_ p0;replace d0:=hd_ d0;replace o0:=hd_ o0;replace b0:=hd_ b0;replace k0:=hd_ k0;replace s0:=hd_ s0;replace c0:=hd_ c0;replace a0:=hd_ a0;replace l0:=hd_ l0;clear ht hs hg n0 hb h1 g1 s1 q1 f0 gsome g2 s2 q2 g0 hn hk hL
 by_cases hcj:cap=k+1
 ·have x0:news=[]:=List.eq_nil_of_length_eq_zero (by have:=p0.out;omega)
  have t0:n=k+1:=by omega
  subst hcj;subst t0
  have f1:(k:Int)≤(k:Int)+1:=by omega
  have f2:k≤k+1:=by omega
  have f3:k+1≤k+1:=Nat.le_refl _
  have f5:(0:Int)≤(k:Int)+1:=by omega
  go_enter Tryz.func191,Tryz.ntmps191
  go_upto_region 5 with (fail)
  go_region_law (refine step_append_room rfl (.tmp 22) (.tmp 25) 152 rfl 156 i0 2 Tryz.underlying152 hi z0 g 0 k (k+1) (by simp [Act.eval,Act.put]) ⟨g,0,none⟩ 0 0 news (by simp [Act.eval,Act.put, *]) (by rw [x0];rfl) (m0 ⟨g,0,none⟩ (.inr x0)).out d0.out (by omega) y0.out ?_;rw [← k0.out])
  simp only [Nat.add_sub_cancel,Nat.add_sub_cancel_left] at w0 j0
  have f6:¬ k+1=k:=by omega
  have f7:k+1-k=1:=by omega
  go_wp2
  go_ret
  exact⟨rfl,j0.out⟩
 ·have b1:¬ k+1=cap:=fun e=>hcj e.symm
  have f1:k≤cap:=by omega
  have f2:k+1≤n:=by omega
  have f3:(k:Int)+1≤(n:Int):=by omega
  have f4:k+1≤cap:=by omega
  have f5:(0:Int)≤(k:Int)+1:=by omega
  go_enter Tryz.func191,Tryz.ntmps191
  go_upto_region 5 with (fail)
  go_region_law (refine step_append_room rfl (.tmp 22) (.tmp 25) 152 rfl 156 i0 2 Tryz.underlying152 hi z0 g 0 k cap (by simp [Act.eval,Act.put]) ⟨g,(k+1)*2,none⟩ (n-(k+1)) (cap-(k+1)) news (by simp [Act.eval,Act.put, *]) p0.out (m0 ⟨g,(k+1)*2,none⟩ (.inl rfl)).out d0.out (by omega) y0.out ?_;rw [← k0.out])
  rw [show k+(n-(k+1))=n-1 by omega]
  have f6:n-(n-1)=1:=by omega
  have f7:¬ cap=n-1:=by omega
  have f8:((n-1:Nat):Int)≤(n:Int):=by omega
  go_wp2
  go_ret
  exact⟨rfl,j0.out⟩
theorem Z5g {α β:Type} (f:α→β):∀ (l:List α) (i:Nat),(l.eraseIdx i).map f=(l.map f).eraseIdx i
 | [],_=>rfl
 | x :: l,0=>rfl
 | x :: l,i+1=>by rw [List.eraseIdx_cons_succ,List.map_cons,List.map_cons,List.eraseIdx_cons_succ,Z5g f l i]
section
variable {own:Nat→Nat} {w:World} {nb:Nat} {nv:Value} {l:List Ms}
theorem Zbj (h:NtO own w nb nv l) (wf:∀ c,w.heap.size≤c→own c=0) (k:Nat) (hk:k<l.length) (hL:l.length≤100000):Calls Tryz.prog 154 #[Z09 nb, .int .i64 k] w fun r w'=>r=.returned (.bool true)∧∃ nv',NtO own w' nb nv' (l.eraseIdx k)∧Turn (fun o=>o=2∨o=3) own own w w':=by
 have hH:=Z5e h k
 rw [decide_eq_true (show (0:Int)≤(k:Int) by omega),decide_eq_true (show (k:Int)<(l.length:Int) by omega)] at hH
 replace hH:=hd_ hH
 have c0:=h.c0
 have hl:=Z04 h.blk
 obtain⟨g0,d0,⟨ms,e,ho,hm⟩,s0⟩:=h
 have i0:ms.length=l.length:=by rw [← e,List.length_map]
 obtain⟨ad,e0,hv,p0,hM,ha⟩:=ho.rd Z2h
 have r0:∃ g,nv=.slice (some ⟨g,0,none⟩) ms.length e0:=by
  obtain⟨_,⟨e1,e2⟩ | ⟨g,o0,cur,e1,_⟩⟩:=ho
  ·omega
  ·rw [e1] at hv ⊢;injection hv with h1 h2 h3;subst h3;exact⟨g,rfl⟩
 obtain⟨g,rfl⟩:=r0
 clear hv ha
 have l0:own g=3:=s0 g rfl
 have n0:g≠nb:=fun e=>by rw [e,g0] at l0;omega
 replace g0:=hd_ g0;replace d0:=hd_ d0;replace ho:=hd_ ho;replace hm:=hd_ hm;replace e:=hd_ e;replace i0:=hd_ i0
 go_enter Tryz.func154,Tryz.ntmps154
 go_wp2_with fail
 refine hH.out.mono ?_
 rintro r w1 ⟨rfl,f0⟩
 have b0:=Z02 d0.out f0
 have c1:w1.cell? ⟨nb,0,none⟩=some (.slice (some ⟨g,0,none⟩) ms.length e0):=Z00 b0 0
 have q0:nb<w1.heap.size:=Z04 b0
 have j0:=ho.out.grow Z2h f0
 have hD:=hd_ (Zjx g e0 ms k w1 j0 (by have:=i0.out;omega) (by have:=i0.out;omega))
 replace f0:=hd_ f0;replace b0:=hd_ b0;replace j0:=hd_ j0;clear c0 hH hl
 simp only [Bool.and_self]
 have hkB:k≤100000:=by omega
 go_wp2_with fail
 refine hD.out.mono ?_
 rintro r w2 ⟨rfl,k0,h0⟩
 have a0:=Z0g b0.out h0 (Ne.symm n0)
 have z2:=Z03 a0 0
 have q2:w2.cell? ⟨nb,0,none⟩=some (.slice (some ⟨g,0,none⟩) ms.length e0):=Z00 a0 0
 have l2:=Z04 a0
 replace a0:=hd_ a0;replace k0:=hd_ k0;replace h0:=hd_ h0;clear c1 hD q0;go_wp2
 go_ret
 have hB:=f0.out
 obtain⟨v3,m0⟩:∃ v,v=Value.slice (some ⟨g,0,none⟩) (ms.length-1) e0:=⟨_,rfl⟩
 rw [← m0]
 have hc:Chg (fun c=>own c=2∨own c=3) w (w2.setCell ⟨nb,0,none⟩ v3):=
  Z06 ((Chg.of_below hB).more h0.out fun i e=>.inl (by rw [e];exact .inr l0)) (.inl g0.out)
 have t:Turn (fun o=>o=2∨o=3) own own w (w2.setCell ⟨nb,0,none⟩ v3):=.same hc wf
 refine⟨rfl,v3,⟨g0.out,Z0d a0.out,⟨ms.eraseIdx k,?_,?_,fun x hx=>?_⟩,fun j hj=>?_⟩,t⟩
 ·rw [← e.out,Z5g]
 ·rw [m0]
  exact k0.out.chg Z2h (F:=fun c=>c=nb) (Z06 (Chg.refl _ _) rfl) fun j hj e=>by
   have hj:some g=some j:=hj
   injection hj with hj
   exact n0 (hj.trans e)
 ·exact (hm.out x (List.mem_of_mem_eraseIdx hx)).keep (Z68 t (by omega))
 ·rw [m0] at hj
  have hj:some g=some j:=hj
  injection hj with hj
  rw [← hj];exact l0
end
end
section
open Go.RowKit
theorem Zgm (l:List Ms) (ms:List Ms) (k:Nat) (hk:k<ms.length):Z1x l (ms.take (k+1))=if decide ((Z1x l (ms.take k)).length<400) then Z1x l (ms.take k)++[ms[k]] else Z1x l (ms.take k):=by
 induction ms generalizing l k with
 | nil=>simp at hk
 | cons m ms ih=>
   cases k with
   | zero=>rfl
   | succ k=>
     rw [List.take_succ_cons,List.take_succ_cons]
     show Z1x _ (ms.take (k+1))=if decide ((Z1x _ (ms.take k)).length<400) then Z1x _ (ms.take k)++_ else Z1x _ (ms.take k)
     exact ih _ k (by simpa using hk)
theorem Zbk {l ms:List Ms} (h:l.length≤400):(Z1x l ms).length≤400:=by
 induction ms generalizing l with
 | nil=>exact h
 | cons m ms ih=>
   show (Z1x _ ms).length≤400
   apply ih
   split
   ·next hc=>
    simp only [decide_eq_true_eq] at hc
    rw [List.length_append,List.length_singleton];omega
   ·exact h
theorem Zjy {l ms:List Ms} {P:Ms→Prop} (h:∀ m ∈ l,P m) (hm:∀ m ∈ ms,P m):∀ m ∈ Z1x l ms,P m:=by
 induction ms generalizing l with
 | nil=>exact h
 | cons x ms ih=>
   show ∀ m ∈ Z1x _ ms,P m
   refine ih ?_ fun m h=>hm m (List.mem_cons_of_mem _ h)
   split
   ·intro m hx
    rcases List.mem_append.1 hx with h1 | h1
    ·exact h m h1
    ·rw [List.mem_singleton.1 h1];exact hm x List.mem_cons_self
   ·exact h
def Zdj (own:Nat→Nat) (v:Value):Nat→Nat:=fun c=>if v.ownBlock=some c then 3 else own c
theorem Z9m {own:Nat→Nat} {v:Value} {c:Nat} (h:¬ v.ownBlock=some c):Zdj own v c=own c:=if_neg h
theorem pubM.at {own:Nat→Nat} {w:World} {v:Value} {o:List MsS} (h:pubM own w v o):∃ ad cap,v=.slice ad o.length cap∧(0<o.length→∃ g off,ad=some ⟨g,off,none⟩∧g<w.heap.size∧own g=0∧∀ k (hk:k<o.length),atG Z23 w g (off+k*13) o[k]):=by
 obtain⟨ad,cap,hv,_,_,ha⟩:=h.rd
 refine⟨ad,cap,hv,fun h0=>?_⟩
 obtain⟨g,off,rfl,hc⟩:=ha h0
 exact⟨g,off,rfl,(hc 0 h0).lt Z23,(h.pub g (by rw [hv];rfl)).1,hc⟩
section
variable {own own':Nat→Nat} {w w':World} {nb:Nat} {nv:Value} {l:List Ms}
theorem Zgn (h:NtO own w nb nv l) (wf:∀ c,w.heap.size≤c→own c=0) (v:Value) (o:List MsS) (hq:pubM own w v o) (hm:∀ x ∈ o,MayM x.m) (hl:l.length≤400) (hol:o.length≤1000000) :
  Calls Tryz.prog 153 #[Z09 nb,v] w fun r w'=>∃ own' nv' z,r=.returned (.int .i64 z)∧NtO own' w' nb nv' (Z1x l (o.map MsS.m))∧Turn (fun o=>o=2∨o=3) own own' w w':=by
 obtain⟨i0,hi,e4,f4,g4⟩:=info_parts Zey
 replace hi:=hd_ hi
 have c0:=h.c0
 have y3:=Z04 h.blk
 obtain⟨na,nc,k2,j2,hlc,_⟩:=h.len
 obtain⟨ad,k3,rfl,g2⟩:=hq.at
 replace h:=hd_ h;replace hq:=hd_ hq;replace hm:=hd_ hm;replace wf:=hd_ wf;replace g2:=hd_ g2
 rw [k2] at c0
 replace k2:=hd_ k2
 unfold maxLen at j2
 go_enter Tryz.func153,Tryz.ntmps153
 go_wp2
 go_loopw [18] (fun i wr=>∃ (k:Nat) (own':Nat→Nat) (nv':Value),k≤o.length∧i=.int .i64 k∧NtO own' wr nb nv' (Z1x l ((o.map MsS.m).take k))∧Turn (fun o=>o=2∨o=3) own own' w wr) (fun i _=>o.length-(intOf i).toNat)
 case atStart=>exact⟨0,own,nv,Nat.zero_le _,rfl,h.out,Turn.same (Chg.refl _ _) wf.out⟩
 case round=>
  obtain⟨k,own1,nv1,hk,rfl,h1,t1⟩:=hrel
  clear c0 y3
  by_cases hlt:k<o.length
  ·obtain⟨g,off,rfl,lg,og,y2⟩:=g2.out (by omega)
   have r0:=Zgm l (o.map MsS.m) k (by rw [List.length_map];exact hlt)
   rw [List.getElem_map] at r0
   generalize hL:Z1x l ((o.map MsS.m).take k)=L at h1 r0
   have f1:L.length≤400:=by rw [← hL];exact Zbk hl
   have b2:=(y2 k hlt).same Z23 (t1.chg.block g lg (by rw [og];omega))
   have e0:=hm.out o[k] (List.getElem_mem hlt)
   have d3:=hq.out.ents o[k] (List.getElem_mem hlt)
   have e2:rdE wr o[k].s o[k].m.ents:=(d3.turn t1 (by omega)).1
   have lg1:g<wr.heap.size:=Nat.lt_of_lt_of_le lg t1.chg.size
   clear y2 d3
   obtain⟨⟨x,xa,xc⟩,hx⟩:∃ x,x=o[k]:=⟨_,rfl⟩
   rw [← hx] at b2 e0 e2 r0
   dsimp only at e0 r0
   have hE:=hd_ (fun w1 (hb:Below wr.heap.size wr w1)=>Z7e x (.slice xa x.ents.length xc) w1 e0 (e2.grow hb))
   have q3:=Zex e0
   have z2:0<(Z4w x).length:=by unfold Z4w;rw [Z2r];omega
   obtain⟨EB,y1⟩:∃ E,E=Z4w x:=⟨_,rfl⟩
   rw [← y1] at hE q3 z2
   obtain⟨u0,u1,u2,u3,u4,u5,u6,u7,u8,u9,j4,k4,l4⟩:=ms_cells b2
   obtain⟨too,q2⟩:∃ t,t=x.too:=⟨_,rfl⟩
   obtain⟨na1,nc1,a0,k0,k1,_⟩:=h1.len
   replace e0:=hd_ e0;replace e2:=hd_ e2;replace b2:=hd_ b2;replace hL:=hd_ hL;replace r0:=hd_ r0;replace h1:=hd_ h1;replace t1:=hd_ t1;replace hx:=hd_ hx;replace y1:=hd_ y1
   unfold maxLen at k0
   obtain⟨xk,xf,xt,xb,xv,xl,xme,xpo,xes,xco,xnu,xcl,xy⟩:=x
   dsimp only at *
   subst q2;go_upto_region 7 with (fail)
   obtain⟨W2,g1⟩:∃ W,W=wr.alloc (.cells #[.int .i64 xk, .int .i64 xf, .int .i64 too, .int .i64 xb, .int .i64 xv, .int .i64 xl, .int .i64 xme, .int .i64 xpo, .slice xa xes.length xc, .int .i64 xco, .int .i64 xnu, .int .i64 xcl, .bool xy] 37):=⟨_,rfl⟩
   obtain⟨mb,m1⟩:∃ mb,mb=wr.heap.size:=⟨_,rfl⟩
   rw [← g1,← m1]
   have y0:Below wr.heap.size wr W2:=g1 ▸ (Below.refl _ _).alloc (Nat.le_refl _) _
   have d0:W2.heap[mb]?=some (.cells #[.int .i64 xk, .int .i64 xf, .int .i64 too, .int .i64 xb, .int .i64 xv, .int .i64 xl, .int .i64 xme, .int .i64 xpo, .slice xa xes.length xc, .int .i64 xco, .int .i64 xnu, .int .i64 xcl, .bool xy] 37 (0,0)):=g1 ▸ m1 ▸ Z0a _ _
   replace g1:=hd_ g1
   have v0:=Z00 d0 0
   have v1:=Z00 d0 1
   have v2:=Z00 d0 2
   have v3:=Z00 d0 3
   have v4:=Z00 d0 4
   have v5:=Z00 d0 5
   have v6:=Z00 d0 6
   have v7:=Z00 d0 7
   have v8:=Z00 d0 8
   have v9:=Z00 d0 9
   have v10:=Z00 d0 10
   have v11:=Z00 d0 11
   have v12:=Z00 d0 12
   have h4:=Z04 d0
   have w2:=hd_ (hE.out W2 y0)
   replace d0:=hd_ d0;replace y0:=hd_ y0;replace m1:=hd_ m1;clear hE u0 u1 u2 u3 u4 u5 u6 u7 u8 u9 j4 k4 l4;go_wp2_with fail
   refine w2.out.mono ?_
   rintro r w3 ⟨v8',rfl,c2,z1⟩
   have z0:=y0.out.trans (z1.mono y0.out.size)
   have f2:=Z02 d0.out z1
   have d2:=c2.rd
   have a2:=c2.lt
   obtain⟨ea,ec,rfl⟩:∃ ea ec,v8'=.slice (some ea) EB.length ec:=by
    obtain⟨a3,c3,e3,_,_,r3⟩:=d2
    obtain⟨b3,o3,rfl,_⟩:=r3 z2
    exact⟨_,_,e3⟩
   clear v0 v1 v2 v3 v4 v5 v6 v7 v8 v9 v10 v11 v12 w2 h4
   have x0:=h1.out.turn (Turn.grow (J:=fun _=>False) (own:=own1) z0 t1.out.new) (fun h=>h) (fun h=>h) (fun h=>h)
   have c3:=x0.c0
   rw [a0] at c3
   have l3:=Z04 x0.blk
   have i4:=Z04 f2
   replace z0:=hd_ z0;replace f2:=hd_ f2;replace d2:=hd_ d2;replace a2:=hd_ a2;replace c2:=hd_ c2;replace x0:=hd_ x0;replace z1:=hd_ z1
   obtain⟨nL,j0⟩:∃ nL,nL=L.length:=⟨_,rfl⟩
   rw [← j0] at c3
   rw [← j0] at f1
   replace j0:=hd_ j0;replace a0:=hd_ a0
   by_cases h400:nL<400
   ·have o0:decide ((nL:Int)<(400:Int))=true:=decide_eq_true (by omega)
    obtain⟨d1,t0,⟨ms1,em,m2,l2⟩,q0⟩:=x0.out
    have x2:¬ nv1.ownBlock=some nb:=fun e=>by have:=q0 nb e;omega
    have o1:own1 mb=0:=t1.out.new mb (by rw [m1.out];exact Nat.le_refl _)
    have n3:¬ nv1.ownBlock=some mb:=fun e=>by have:=q0 mb e;omega
    have o2:=hd_ (show ∀ j,nv1.ownBlock=some j→j<wr.heap.size from fun j hj=>Nat.lt_of_not_le fun hge=>by have:=q0 j hj;have:=t1.out.new j hge;omega)
    replace d1:=hd_ d1;replace t0:=hd_ t0;replace em:=hd_ em;replace m2:=hd_ m2;replace l2:=hd_ l2;replace q0:=hd_ q0;replace o1:=hd_ o1
    have h3:ms1.length=nL:=by rw [j0.out,← em.out,List.length_map]
    go_upto_region 9 with (fail);clear c3 l3 i4 o0
    refine Z05 (fun c=>nv1.ownBlock=some c) (.q 0 (.q 1 (.q 2 (.q 3 (.q 4 (.q 5 (.q 6 (.q 7 (.l 8 (.l 9 (.l 10 (.q 11 (.q 12 (.cut (.l 13 .fin))))))))))))))) (by kernel_rfl) (by kernel_rfl) ?_
    intro w4 hh p0
    have o0:w4.heap[nb]?=some (.cells #[nv1] 154 (0,0)):=by rw [hh];exact t0.out
    have j3:w4.heap[mb]?=some (.cells #[.int .i64 xk, .int .i64 xf, .int .i64 too, .int .i64 xb, .int .i64 xv, .int .i64 xl, .int .i64 xme, .int .i64 xpo, .slice xa xes.length xc, .int .i64 xco, .int .i64 xnu, .int .i64 xcl, .bool xy] 37 (0,0)):=by rw [hh];exact f2.out
    have u0:=Z01 (F:=fun c=>nv1.ownBlock=some c) (b:=w4) x2 (show w4.cell? ⟨nb,0,none⟩=some (.slice na1 nL nc1) from by rw [Z00 o0 0];show some nv1=_;rw [a0.out,← j0.out])
    have u2:=Z01 (F:=fun c=>nv1.ownBlock=some c) (b:=w4) n3 (show w4.cell? ⟨mb,2,none⟩=some (.int .i64 too) from Z00 j3 2)
    have n2:=hd_ (m2.out.grow Z2h (hh ▸ p0:Below w3.heap.size w3 w4))
    have t2:=hd_ (z0.out.trans (p0.mono z0.out.size))
    replace hh:=hd_ hh;replace p0:=hd_ p0;replace o0:=hd_ o0;clear j3;iterate 8 (refine Z0n rfl ?_;go_big_quiet_step (fail);refine wpQuiet_nil ?_)
    clear u0 u2;refine Z0j rfl (by kernel_rfl) ?_;intro K1 hK;go_simp
    refine hK _ _ (Chg.refl _ _) ?_
    clear hK K1;refine Z0j rfl (by kernel_rfl) ?_;intro K1 hK;go_simp
    obtain⟨W5,s0⟩:∃ W5,W5=w4.alloc (.cells #[.int .i64 too, .slice (some ea) EB.length ec] 156):=⟨_,rfl⟩
    have x1:W5.heap[w4.heap.size]?=some (.cells #[.int .i64 too, .slice (some ea) EB.length ec] 156 (0,0)):=s0 ▸ Z0a _ _
    have h2:Chg (fun c=>nv1.ownBlock=some c) w4 W5:=s0 ▸ Z1a (Chg.refl _ _)
    have e1:Below w4.heap.size w4 W5:=s0 ▸ (Below.refl _ _).alloc (Nat.le_refl _) _
    have p2:W5.heap.size=w4.heap.size+1:=by rw [s0];simp
    have r1:=hd_ (n2.out.grow Z2h e1)
    obtain⟨nc5,m0⟩:∃ nc5,nc5=w4.heap.size:=⟨_,rfl⟩
    rw [← s0,← m0]
    rw [← m0] at x1
    replace x1:=hd_ x1;replace s0:=hd_ s0;replace m0:=hd_ m0;replace p2:=hd_ p2
    refine hK _ _ h2 ?_
    clear hK K1
    have s3:=hi.out
    refine Z0j rfl (by kernel_rfl) ?_;intro K1 hK
    refine Z6e _ (.tmp 38) (.tmp 43) 152 rfl 0 156 i0 (.agg #[.int .i64 0, .slice none 0 0]) 2 32 Tryz.underlying152 s3 e4 f4 g4 rfl (by decide) (.slice na1 nL nc1) nL (Z1h Z2h ms1) rfl (by have:=r1.out;unfold ownG at this;rw [a0.out,← j0.out,h3] at this;exact this) (.slice (some ⟨nc5,0,none⟩) 1 1) 1 _ rfl (Z5y x1.out rfl) ?c1 (by unfold maxLen;omega) (by omega) (Nat.zero_le _) ?_
    case c1=>
     intro u hu
     simp only [List.mem_cons,List.not_mem_nil,or_false] at hu
     rcases hu with rfl | rfl<;>rfl
    intro v6 w6 b0 i2 l0
    have s2:(Value.slice na1 nL nc1).ownBlock=nv1.ownBlock:=by rw [a0.out,← j0.out]
    rw [s2] at i2 l0
    have w0:Chg (fun c=>nv1.ownBlock=some c) w4 w6:=Z10 h2 i2 fun k hk=>.inl hk
    have a1:=Z0g o0.out w0 x2
    have x3:=Z04 a1
    have f6:=Z03 a1 0
    have q6:w6.cell? ⟨nb,0,none⟩=some (.slice na1 nL nc1):=by rw [Z00 a1 0];show some nv1=_;rw [a0.out,← j0.out]
    obtain⟨ad6,m3,r2⟩:∃ ad c,v6=.slice ad (nL+1) c:=by
     rcases b0.2 with ⟨h,h0⟩ | ⟨g,k3,cur,h,_⟩
     ·omega
     ·exact⟨_,_,h⟩
    replace a1:=hd_ a1;replace b0:=hd_ b0;replace l0:=hd_ l0;replace s2:=hd_ s2;clear i2 r1 h2 e1 x1;go_simp
    refine hK _ _ w0 ?_
    clear hK K1;replace r2:=hd_ r2;refine Z0n rfl ?_;go_big_quiet_step (fail);refine wpQuiet_nil ?_;refine Z0n rfl ?_;go_big_quiet_step (fail);refine wpQuiet_nil ?_;refine Z0h Z1j ?_;refine Z0j rfl (by kernel_rfl) ?_;intro K1 hK;go_simp
    refine hK _ _ (Z06 (Chg.refl _ _) trivial) ?_
    clear hK K1;refine Z0c ?_;replace w0:=hd_ w0
    obtain⟨W7,n0⟩:∃ W7,W7=w6.setCell ⟨nb,0,none⟩ v6:=⟨_,rfl⟩
    rw [← r2.out,← n0]
    have q1:Hid (NtO (Zdj own1 v6) W7 nb v6 (L++[⟨xk,xf,too,xb,xv,xl,xme,xpo,xes,xco,xnu,xcl,xy⟩])∧Turn (fun o=>o=2∨o=3) own1 (Zdj own1 v6) wr W7):=hd_ (by
     have c4:=t2.out.size
     have d4:=w0.out.size
     have i3:W7.heap.size=w6.heap.size:=by rw [n0];exact World.size_setCell ..
     have z3:nb<w4.heap.size:=Z04 o0.out
     have s1:∀ j,v6.ownBlock=some j→j<w6.heap.size:=fun j hj=>(b0.out.lt j hj).2
     have f0:∀ j,v6.ownBlock=some j→(own1 j=3∧j<wr.heap.size)∨(j=W5.heap.size):=fun j hj=>by
      rcases l0.out with h | h
      ·rw [h] at hj;exact .inl ⟨q0.out j hj,o2.out j hj⟩
      ·rw [h] at hj;injection hj with hj;exact .inr hj.symm
     have b4:=p2.out
     have p1:¬ v6.ownBlock=some nb:=fun e=>by
      rcases f0 nb e with h | h
      ·have:=d1.out;omega
      ·omega
     have p3:Chg (fun c=>own1 c=2∨own1 c=3) wr W7:=n0 ▸ Z06 ((Chg.of_below t2.out).more w0.out fun i e=>.inl (.inr (q0.out i e))) (.inl d1.out)
     have hT:Turn (fun o=>o=2∨o=3) own1 (Zdj own1 v6) wr W7:=⟨p3,fun c hc=>by
       unfold Zdj
       split
       ·next e=>
        rcases f0 c e with h | h
        ·exact h.1.symm
        ·omega
       ·rfl,fun c hc=>by
       rw [Z9m (fun e=>by have:=s1 c e;omega)]
       exact t1.out.new c (by omega)⟩
     have f3:∀ c,own1 c=0→c<w3.heap.size→Zdj own1 v6 c=0:=fun c h0 hc=>by
      rw [Z9m (fun e=>?_)]
      ·exact h0
      ·rcases f0 c e with h | h
       ·omega
       ·have a4:w3.heap.size≤w4.heap.size:=by have:=(hh.out ▸ p0.out:Below w3.heap.size w3 w4).size;exact this
        omega
     have g3:∀ c,c<w3.heap.size→own1 c=0→W7.heap[c]?=w3.heap[c]?:=fun c hc h0=>by
      have i1:=(hh.out ▸ p0.out:Below w3.heap.size w3 w4)
      rw [n0,Below.heap_setCell _ _ _ _ (fun e=>by have:=d1.out;have e:c=nb:=e;rw [e] at h0;omega),w0.out.block c (Nat.lt_of_lt_of_le hc i1.size) (fun e=>by have:=q0.out c e;omega),i1.block c hc]
     refine⟨⟨(Z9m p1).trans d1.out,n0 ▸ Z0d a1.out,⟨ms1++[⟨⟨xk,xf,too,xb,xv,xl,xme,xpo,xes,xco,xnu,xcl,xy⟩,some ea,EB.length,ec⟩],by rw [List.map_append,em.out];rfl,?_,?_⟩,fun j hj=>if_pos hj⟩,hT⟩
     ·have e:ownG Z2h w6 0 156 v6 (ms1++[⟨⟨xk,xf,too,xb,xv,xl,xme,xpo,xes,xco,xnu,xcl,xy⟩,some ea,EB.length,ec⟩]):=by
       unfold ownG
       rw [List.length_append,Z1u,h3]
       exact b0.out
      rw [n0]
      exact e.chg Z2h (F:=fun c=>c=nb) (Z06 (Chg.refl _ _) rfl) fun j hj e=>p1 (e ▸ hj)
     ·intro x hx
      rcases List.mem_append.1 hx with h | h
      ·have b1:=l2.out x h
       exact⟨b1.rd.same fun c hc=>g3 c (b1.pub c hc).2 (b1.pub c hc).1,fun c hc=>⟨f3 c (b1.pub c hc).1 (b1.pub c hc).2,by rw [i3];have:=(b1.pub c hc).2;have:=(hh.out ▸ p0.out:Below w3.heap.size w3 w4).size;omega⟩⟩
      ·obtain rfl:=List.mem_singleton.1 h
       have j1:∀ c,(Value.slice (some ea) EB.length ec).ownBlock=some c→own1 c=0∧c<w3.heap.size:=fun c hc=>⟨t1.out.new c (by have:=(a2.out c hc).1;have:=y0.out.size;omega),(a2.out c hc).2⟩
       refine⟨?_,fun c hc=>⟨f3 c (j1 c hc).1 (j1 c hc).2,by rw [i3];have:=(j1 c hc).2;have:=(hh.out ▸ p0.out:Below w3.heap.size w3 w4).size;omega⟩⟩
       have:=d2.out.same (w':=W7) fun c hc=>g3 c (j1 c hc).2 (j1 c hc).1
       show rdB W7 (.slice (some ea) EB.length ec) (Z4w ⟨xk,xf,too,xb,xv,xl,xme,xpo,xes,xco,xnu,xcl,xy⟩)
       rw [← y1.out]
       exact this)
    clear x3 f6 q6;replace n0:=hd_ n0;go_wp2
    go_roundw
    case rel=>
     have e3:Z1x l ((o.map MsS.m).take (k+1))=L++[⟨xk,xf,too,xb,xv,xl,xme,xpo,xes,xco,xnu,xcl,xy⟩]:=by
      rw [r0.out,if_pos (by rw [decide_eq_true_eq,← j0.out];omega)]
     exact⟨k+1,Zdj own1 v6,v6,by omega,by go_num,by rw [e3];exact q1.out.1,t1.out.trans q1.out.2⟩
    case measure=>simp [intOf];omega
   ·have o0:decide ((nL:Int)<(400:Int))=false:=decide_eq_false (by omega)
    go_wp2
    go_roundw
    case rel=>
     have t3:=t1.out.trans (Turn.grow (J:=fun o=>o=2∨o=3) (own:=own1) z0.out t1.out.new)
     have e3:Z1x l ((o.map MsS.m).take (k+1))=L:=by
      rw [r0.out,if_neg (by rw [decide_eq_true_eq,← j0.out];omega)]
     exact⟨k+1,own1,nv1,by omega,by go_num,by rw [e3];exact x0.out,t3⟩
    case measure=>simp [intOf];omega
  ·obtain rfl:k=o.length:=by omega
   have g0:Z1x l ((o.map MsS.m).take o.length)=Z1x l (o.map MsS.m):=by rw [List.take_of_length_le (by rw [List.length_map];exact Nat.le_refl _)]
   rw [g0] at h1
   have c1:=h1.c0
   have l1:=Z04 h1.blk
   obtain⟨na1,nc1,a0,k0,k1,_⟩:=h1.len
   rw [a0] at c1
   generalize (Z1x l (o.map MsS.m)).length=n1 at c1 a0 k1
   unfold maxLen at k0
   replace h1:=hd_ h1;replace t1:=hd_ t1;replace a0:=hd_ a0;replace g0:=hd_ g0;go_wp2
   go_ret
   exact⟨own1,nv1,_,rfl,h1.out,t1.out⟩
end
end
section
open Go.RowKit
structure WOk (c:Nat) (W:Wl):Prop where
 pr:∀ i s,1≤i→(Z0i W i).s=some s→Full c s
 net:∀ m ∈ W.net,MayM m
 n400:W.net.length≤400
 r0:0≤W.real
 r1:W.real≤c
theorem WOk.up {c d:Nat} {W:Wl} (h:WOk c W) (hd:c≤d):WOk d W:=⟨fun i s h1 hs=>(h.pr i s h1 hs).up hd,h.net,h.n400,h.r0,by have:=h.r1;omega⟩
theorem WOk.put {c d:Nat} {W:Wl} {i:Nat} {s s':Nd} (h:WOk c W) (hd:c≤d) (hi:1≤i) (hs:(Z0i W i).s=some s) (hf:Full d s'):WOk d (W.put i s'):=by
 refine⟨fun j s2 h1 a0=>?_,h.net,h.n400,h.r0,by have:=h.r1;show W.real≤(d:Int);omega⟩
 rw [Z3q W i s' hi (Z3r hi hs) j h1] at a0
 by_cases hj:j=i
 ·rw [if_pos hj] at a0
  have a0:some s'=some s2:=a0
  injection a0 with a0
  rw [← a0];exact hf
 ·rw [if_neg hj] at a0
  exact (h.pr j s2 h1 a0).up hd
theorem WOk.send {c:Nat} {W:Wl} (h:WOk c W) {l:List Ms} (hl:∀ m ∈ l,MayM m):WOk c { W with net:=Z1x W.net l }:=⟨h.pr,Zjy h.net hl,Zbk h.n400,h.r0,h.r1⟩
section
variable {own own':Nat→Nat} {w0 w w':World} {A A':WlAt} {W:Wl} {i c:Nat} {s:Nd}
theorem wTick (h:WlO own w0 w A W) (hf:WOk c W) (hc:c<399000) (hi:1≤i) (hs:(Z0i W i).s=some s) :
  Calls Tryz.prog 23 #[Z09 (A.nd i).b] w fun r w'=>∃ v own' A' o,r=.returned v∧WlO own' w0 w' A' (W.put i s.tick.1)∧KeepW own own' w w'∧SameA A A'∧pubM own' w' v o∧o.map MsS.m=s.tick.2:=by
 have hP:=h.pr i s hi hs
 have hF:=hf.pr i s hi hs
 refine (Zb3 c hP.nd h.m hF.ok (by omega) hF.nov).mono ?_
 rintro r w' ⟨v,rfl,own',a',o',h1,e1,t1,g1,m1,v1⟩
 obtain⟨k1,k2,k3⟩:=h.step hi hs h1 e1 t1 v1
 exact⟨v,_,_,o',rfl,k1,k2,k3,g1.pubK (by unfold KI;omega),m1⟩
theorem wHear (h:WlO own w0 w A W) (hf:WOk c W) (hc:c<399000) (hi:1≤i) (hs:(Z0i W i).s=some s) (v:Value) (m:Ms) (hb:rdB w v (Z4w m)) (hm:MayM m) :
  Calls Tryz.prog 68 #[Z09 (A.nd i).b,v] w fun r w'=>∃ v' own' A' o,r=.returned v'∧WlO own' w0 w' A' (W.put i (s.hear m).1)∧KeepW own own' w w'∧SameA A A'∧pubM own' w' v' o∧o.map MsS.m=(s.hear m).2:=by
 have hP:=h.pr i s hi hs
 have hF:=hf.pr i s hi hs
 refine (Zb6 c hP.nd h.m hF.ok (by omega) v m hb hm).mono ?_
 rintro r w' ⟨v',rfl,⟨e,rfl,h1,t1⟩ | ⟨own',a',o',h1,e1,t1,g1,m1,v1⟩⟩
 ·rw [e]
  obtain⟨k1,k2,k3⟩:=h.step hi hs h1 (.refl _) t1 hP.ov
  exact⟨_,_,_,[],rfl,k1,k2,k3,⟨⟨none,0,rfl,Nat.le_refl _,Nat.zero_le _,fun h=>absurd h (Nat.lt_irrefl 0)⟩,fun k hk=>(by cases hk),fun x hx=>(by cases hx)⟩,rfl⟩
 ·obtain⟨k1,k2,k3⟩:=h.step hi hs h1 e1 t1 v1
  exact⟨v',_,_,o',rfl,k1,k2,k3,g1.pubK (by unfold KI;omega),m1⟩
theorem Zdk (h:WlO own w0 w A W) (hf:WOk c W) (v:Value) (o:List MsS) (hq:pubM own w v o) (hm:∀ m ∈ o.map MsS.m,MayM m) (hol:o.length≤1000000) :
  Calls Tryz.prog 153 #[Z09 A.nb,v] w fun r w'=>∃ own' A' z,r=.returned (.int .i64 z)∧WlO own' w0 w' A' { W with net:=Z1x W.net (o.map MsS.m) }∧KeepW own own' w w'∧SameA A A':=by
 refine (Zgn h.nt h.wf v o hq (fun x hx=>hm x.m (List.mem_map.2 ⟨x,hx,rfl⟩)) hf.n400 hol).mono ?_
 rintro r w' ⟨own',nv',z,rfl,hn,t⟩
 obtain⟨k1,k2⟩:=h.net t hn
 exact⟨own',_,z,rfl,k1,k2,⟨rfl,rfl,rfl,fun _=>rfl⟩⟩
theorem WlO.ce (h:WlO own w0 w A W) (o:Nat):w.cell? ⟨A.wb,o,none⟩=(wlC A W)[o]?:=Z00 h.blk o
theorem WlO.cn (h:WlO own w0 w A W):w.cell? ⟨A.wb,0,none⟩=some (.int .i64 W.n):=h.ce 0
theorem WlO.cnet (h:WlO own w0 w A W):w.cell? ⟨A.wb,33,none⟩=some (Z09 A.nb):=h.ce 33
theorem WlO.creal (h:WlO own w0 w A W):w.cell? ⟨A.wb,34,none⟩=some (.int .i64 W.real):=h.ce 34
theorem WlO.cx (h:WlO own w0 w A W) (h1:1≤i) (h7:i≤7):w.cell? ⟨A.wb,1+i*4,none⟩=some (xV A W i):=by rw [h.ce,show 1+i*4=1+4*i by omega];exact wlL_x h1 h7
theorem WlO.cc (h:WlO own w0 w A W) (h1:1≤i) (h7:i≤7):w.cell? ⟨A.wb,1+i*4+1,none⟩=some (cV A W i):=by rw [h.ce,show 1+i*4+1=2+4*i by omega];exact wlL_c h1 h7
theorem Z2f (h:WlO own w0 w A W) (id:Int):Calls Tryz.prog 102 #[Z09 A.wb, .int .i64 id] w fun r w'=>r=.returned (.bool (decide (1≤id)&&decide (id≤W.n)))∧Below w.heap.size w w':=by
 have c0:=h.cn
 have hl:=Z04 h.blk
 have n3:=h.n3
 have n7:=h.n7
 clear h
 by_cases h1:1≤id
 ·have e0:decide (1≤id)=true:=decide_eq_true h1
  rw [e0,Bool.true_and]
  go_enter Tryz.func102,Tryz.ntmps102
  go_wp2
  go_ret
  exact⟨Z0b (by simp<;>omega),Below.refl _ _⟩
 ·have e0:decide (1≤id)=false:=decide_eq_false h1
  rw [e0,Bool.false_and]
  go_enter Tryz.func102,Tryz.ntmps102
  go_wp2
  go_ret
  exact⟨Z0b (by simp<;>omega),Below.refl _ _⟩
theorem Z1n (h:WlO own w0 w A W) (hi:1≤i) (hn:(i:Int)≤W.n):Calls Tryz.prog 45 #[Z09 A.wb, .int .i64 i] w fun r w'=>r=.returned (xV A W i)∧Below w.heap.size w w':=by
 have hI:=Z2f h i
 rw [decide_eq_true (show (1:Int)≤(i:Int) by omega),decide_eq_true hn] at hI
 replace hI:=hd_ hI
 have n7:=h.n7
 have i7:i≤7:=by omega
 have cx:=h.cx hi i7
 have hl:=Z04 h.blk
 generalize xV A W i=xv at cx ⊢
 replace h:=hd_ h
 go_enter Tryz.func45,Tryz.ntmps45
 go_wp2_with fail
 refine hI.out.mono ?_
 rintro r w1 ⟨rfl,a0⟩
 have cx1:w1.cell? ⟨A.wb,1+i*4,none⟩=some xv:=by rw [a0.cell hl];exact cx
 have hl1:A.wb<w1.heap.size:=Nat.lt_of_lt_of_le hl a0.size
 replace a0:=hd_ a0;clear cx hI
 simp only [Bool.and_self]
 go_wp2
 go_ret
 exact⟨rfl,a0.out⟩
theorem Z69 (h:WlO own w0 w A W) (id:Int) (hn:¬ (1≤id∧id≤W.n)):Calls Tryz.prog 45 #[Z09 A.wb, .int .i64 id] w fun r w'=>r=.returned (.pointer none)∧Below w.heap.size w w':=by
 have hI:=Z2f h id
 have e:(decide (1≤id)&&decide (id≤W.n))=false:=by rw [Bool.and_eq_false_iff,decide_eq_false_iff_not,decide_eq_false_iff_not];omega
 rw [e] at hI
 replace hI:=hd_ hI;replace h:=hd_ h
 go_enter Tryz.func45,Tryz.ntmps45
 go_wp2_with fail
 refine hI.out.mono ?_
 rintro r w1 ⟨rfl,a0⟩;replace a0:=hd_ a0;go_wp2
 go_ret
 exact⟨rfl,a0.out⟩
theorem Zlk (h:WlO own w0 w A W):Calls Tryz.prog 51 #[Z09 A.wb] w fun r w'=>r=.returned (Z09 A.nb)∧w=w':=by
 have c:=h.cnet
 have hl:=Z04 h.blk
 clear h
 go_enter Tryz.func51,Tryz.ntmps51
 go_wp2
 go_ret
 exact⟨rfl,rfl⟩
theorem Z2n (h:WlO own w0 w A W):Calls Tryz.prog 44 #[Z09 A.wb] w fun r w'=>r=.returned (.int .i64 W.real)∧w=w':=by
 have c:=h.creal
 have hl:=Z04 h.blk
 clear h
 go_enter Tryz.func44,Tryz.ntmps44
 go_wp2
 go_ret
 exact⟨rfl,rfl⟩
end
end
section
open Go.RowKit
theorem xV_put {A A':WlAt} {W:Wl} {i:Nat} {s s':Nd} (h1:1≤i) (hs:(Z0i W i).s=some s) (hA:SameA A A') (j:Nat) (hj:1≤j):xV A' (W.put i s') j=xV A W j:=by
 unfold xV
 rw [Z3q W i s' h1 (Z3r h1 hs) j hj]
 by_cases hji:j=i
 ·subst hji
  rw [if_pos rfl,hs]
  show Z3f (some (A'.nd j).b)=Z3f (some (A.nd j).b)
  rw [hA.b]
 ·rw [if_neg hji]
  cases (Z0i W j).s with
  | none=>rfl
  | some s=>show Z3f (some (A'.nd j).b)=Z3f (some (A.nd j).b);rw [hA.b]
theorem Z22 (W:Wl) (i:Nat) (h1:1≤i):W.get i=Z0i W i:=by
 unfold Wl.get Z0i
 rw [show ((i:Int)-1).toNat=i-1 by omega]
theorem Z47 {W:Wl} {i:Nat} (h1:1≤i) (hn:(i:Int)≤W.n):W.node i=(Z0i W i).s:=by
 unfold Wl.node Wl.is
 rw [decide_eq_true (show (1:Int)≤(i:Int) by omega),decide_eq_true hn,Z22 W i h1];rfl
theorem Z6t {W:Wl} {id:Int} (h:¬ (1≤id∧id≤W.n)):W.node id=none:=by
 unfold Wl.node Wl.is
 have e:(decide (1≤id)&&decide (id≤W.n))=false:=by rw [Bool.and_eq_false_iff,decide_eq_false_iff_not,decide_eq_false_iff_not];omega
 rw [e];rfl
theorem Zbl {W:Wl} {m:Ms} {i:Nat} {s:Nd} (ht:m.too=i) (h1:1≤i) (hn:(i:Int)≤W.n) (hs:(Z0i W i).s=some s):W.hear m={ W.put i (s.hear m).1 with net:=Z1x W.net (s.hear m).2 }:=by
 unfold Wl.hear
 rw [ht,Z47 h1 hn,hs]
theorem Zbm {W:Wl} {m:Ms} (h:W.node m.too=none):W.hear m=W:=by
 unfold Wl.hear;rw [h]
abbrev Z8n (fn a n o l:Int) (d:ByteArray):Value:=.agg #[.int .i64 fn, .int .i64 a, .int .i64 n, .int .i64 o, .int .i64 l, .string d]
abbrev Z6i (fn a n o l:Int) (d:ByteArray):Array Value:=#[.int .i64 fn, .int .i64 a, .int .i64 n, .int .i64 o, .int .i64 l, .string d]
section
variable {own own':Nat→Nat} {w0 w w':World} {A A':WlAt} {W:Wl} {i c:Nat} {s:Nd}
theorem Z8o (h:WlO own w0 w A W) (fn a n o l:Int) (d:ByteArray) (hn:¬ (0≤n∧n<(W.net.length:Int))) :
  Calls Tryz.prog 100 #[Z09 A.wb,Z8n fn a n o l d] w fun r w'=>r=.returned (.int .i64 3)∧Below w.heap.size w w':=by
 obtain⟨W0,b0⟩:∃ W0,W0=w.alloc (.cells (Z6i fn a n o l d) 83):=⟨_,rfl⟩
 have a0:Below w.heap.size w W0:=b0 ▸ (Below.refl _ _).alloc (Nat.le_refl _) _
 obtain⟨sb,d0⟩:∃ sb,sb=w.heap.size:=⟨_,rfl⟩
 have f0:W0.heap[sb]?=some (.cells (Z6i fn a n o l d) 83 (0,0)):=b0 ▸ d0 ▸ Z0a _ _
 have h0:=h.grow a0
 replace h0:=hd_ h0;replace a0:=hd_ a0;replace f0:=hd_ f0;replace h:=hd_ h
 go_enter Tryz.func100,Tryz.ntmps100
 go_upto_region 1 with (fail)
 rw [← b0,← d0]
 replace b0:=hd_ b0;replace d0:=hd_ d0
 refine Z05 (fun _=>False) (.q 0 (.q 1 (.q 2 (.q 3 (.q 4 (.q 5 (.l 6 (.q 7 (.q 8 (.q 9 (.q 10 (.q 11 .fin)))))))))))) (by kernel_rfl) (by kernel_rfl) ?_
 intro w1 hh c0
 have h1:=h0.out.grow c0
 have j0:=Z01 (F:=fun _=>False) (b:=w1) (fun h=>h) h1.cnet
 have x2:=Z01 (F:=fun _=>False) (b:=w1) (fun h=>h) (show w1.cell? ⟨sb,2,none⟩=some (.int .i64 n) from Z00 (Z02 f0.out c0) 2)
 have hL:=hd_ (Zgl h1.nt n hn)
 have g0:=hd_ (a0.out.trans (c0.mono a0.out.size))
 replace h1:=hd_ h1;replace hh:=hd_ hh;replace c0:=hd_ c0;iterate 6 (refine Z0n rfl ?_;go_big_quiet_step (fail);refine wpQuiet_nil ?_)
 clear j0 x2;refine Z0j rfl (by kernel_rfl) ?_;intro K1 hK;go_simp
 refine hL.out.mono ?_
 rintro r w2 ⟨rfl,e0⟩
 refine hK _ _ (.of_below e0) ?_
 clear hK K1
 have i0:=hd_ (g0.out.trans (e0.mono g0.out.size))
 clear e0 hL;iterate 5 (refine Z0n rfl ?_;go_big_quiet_step (fail);refine wpQuiet_nil ?_)
 refine Z0c ?_;go_wp2
 go_ret
 exact⟨rfl,i0.out⟩
theorem hasM_len {c:Nat} {s:Nd} (h:Okg c s) (m:Ms):(s.hasM m).2.length≤64+c:=by
 rw [Z3n]
 unfold Nd.hasG
 split
 ·split
  ·exact Nat.zero_le _
  ·exact Nat.le_trans (Z3o _ (s.has1 m) _ (Nat.le_refl _)).2.2 h.asl
 ·exact Nat.zero_le _
theorem Zez {c:Nat} {s:Nd} (h:Okg c s) (m:Ms) (hc:c<900000):(s.hear m).2.length≤1000000:=by
 have h1:Okg c (s.heard_ m):=h.heard_ m
 unfold Nd.hear
 split
 ·exact Nat.zero_le _
 ·show ((s.heard_ m).hear0 m).2.length≤1000000
  generalize s.heard_ m=s1 at h1
  have one:∀ x:Ms,[x].length≤1000000:=fun x=>by rw [List.length_singleton];omega
  unfold Nd.hear0
  split
  ·exact one _
  ·split
   ·unfold Nd.state;dsimp only;repeat' split
    all_goals first | exact Nat.zero_le _ | exact one _
   ·unfold Nd.hears
    split
    ·unfold Nd.proposed;dsimp only;repeat' split
     all_goals first | exact Nat.zero_le _ | exact one _
    ·split
     ·exact Nat.zero_le _
     ·split
      ·exact Nat.zero_le _
      ·split
       ·unfold Nd.installed;dsimp only;repeat' split
        all_goals first | exact Nat.zero_le _ | exact one _
       ·split
        ·unfold Nd.append;dsimp only;split
         ·exact Nat.zero_le _
         ·exact one _
        ·split
         ·exact Nat.zero_le _
         ·split
          ·unfold Nd.serve
           split
           ·split
            ·have:=hasM_len h1 m;omega
            ·exact Nat.zero_le _
           ·split
            ·exact Nat.zero_le _
            ·split
             ·exact one _
             ·split
              ·exact Nat.zero_le _
              ·exact Nat.zero_le _
          ·exact Nat.zero_le _
theorem Zbn (h:WlO own w0 w A W) (hf:WOk c W) (hc:c<398000) (fn a:Int) (k:Nat) (o l:Int) (d:ByteArray) (hk:k<W.net.length) (hfn:fn=3∨fn=4∨fn=5) :
  Calls Tryz.prog 100 #[Z09 A.wb,Z8n fn a k o l d] w fun r w'=>∃ own' A',r=.returned (.int .i64 0)∧WlO own' w0 w' A' (W.mail fn k).1∧WOk (c+1) (W.mail fn k).1∧KeepW own own' w w'∧SameA A A':=by
 obtain⟨m,hm⟩:∃ m,m=W.net[k]:=⟨_,rfl⟩
 obtain⟨Wr,l2⟩:∃ Wr,Wr=(W.mail fn k).1:=⟨_,rfl⟩
 obtain⟨W1,e1⟩:∃ W1,W1=if fn==5 then W else { W with net:=W.net.eraseIdx k }:=⟨_,rfl⟩
 have t0:Wr=if fn==4 then W1 else W1.hear m:=by
  rw [l2,e1,hm]
  unfold Wl.mail
  rw [if_neg (by omega)]
  simp only [Int.toNat_natCast,List.getElem?_eq_getElem hk]
 rw [← l2]
 have j0:WOk c W1:=by
  rw [e1]
  split
  ·exact hf
  ·exact⟨hf.pr,fun x hx=>hf.net x (List.mem_of_mem_eraseIdx hx),Nat.le_trans (List.length_eraseIdx_le _ _) hf.n400,hf.r0,hf.r1⟩
 have k0:MayM m:=hf.net m (by rw [hm];exact List.getElem_mem hk)
 have k3:W1.n=W.n:=by rw [e1];split<;>rfl
 have l3:∀ j,Z0i W1 j=Z0i W j:=by rw [e1];split<;>exact fun j=>rfl
 have j3:k<400:=Nat.lt_of_lt_of_le hk hf.n400
 obtain⟨V0,d2⟩:∃ V0,V0=w.alloc (.cells (Z6i fn a k o l d) 83):=⟨_,rfl⟩
 have c2:Below w.heap.size w V0:=d2 ▸ (Below.refl _ _).alloc (Nat.le_refl _) _
 obtain⟨sb,m2⟩:∃ sb,sb=w.heap.size:=⟨_,rfl⟩
 have z2:V0.heap[sb]?=some (.cells (Z6i fn a k o l d) 83 (0,0)):=d2 ▸ m2 ▸ Z0a _ _
 have j1:own sb=0:=h.wf sb (by omega)
 have h0:=h.grow c2
 replace h0:=hd_ h0;replace c2:=hd_ c2;replace z2:=hd_ z2;replace h:=hd_ h;replace l2:=hd_ l2;replace t0:=hd_ t0;replace e1:=hd_ e1;replace j0:=hd_ j0;replace k0:=hd_ k0;replace hm:=hd_ hm;replace j1:=hd_ j1;replace k3:=hd_ k3;replace l3:=hd_ l3;replace hf:=hd_ hf
 go_enter Tryz.func100,Tryz.ntmps100
 go_upto_region 1 with (fail)
 rw [← d2,← m2]
 replace d2:=hd_ d2;replace m2:=hd_ m2
 -- it is looked at
 refine Z05 (fun _=>False) (.q 0 (.q 1 (.q 2 (.q 3 (.q 4 (.q 5 (.l 6 (.q 7 (.q 8 (.q 9 (.q 10 (.q 11 .fin)))))))))))) (by kernel_rfl) (by kernel_rfl) ?_
 intro w1 hh f2
 have h1:=h0.out.grow f2
 have o2:=Z02 z2.out f2
 have d1:=Z01 (F:=fun _=>False) (b:=w1) (fun h=>h) h1.cnet
 have x2:=Z01 (F:=fun _=>False) (b:=w1) (fun h=>h) (show w1.cell? ⟨sb,2,none⟩=some (.int .i64 k) from Z00 o2 2)
 have hL:=Zjw h1.nt hf.out.net k hk
 rw [← hm.out] at hL
 replace hL:=hd_ hL
 have d3:=hd_ (c2.out.trans (f2.mono c2.out.size))
 replace h1:=hd_ h1;replace o2:=hd_ o2;replace hh:=hd_ hh;replace f2:=hd_ f2;iterate 6 (refine Z0n rfl ?_;go_big_quiet_step (fail);refine wpQuiet_nil ?_)
 clear d1 x2;refine Z0j rfl (by kernel_rfl) ?_;intro K1 hK;go_simp
 refine hL.out.mono ?_
 rintro r w2 ⟨bv,rfl,q2,g3,g2⟩
 refine hK _ _ (.of_below g2) ?_
 clear hK K1
 have h2:=hd_ (h1.out.grow g2)
 have o3:=hd_ (Z02 o2.out g2)
 have e3:=hd_ (d3.out.trans (g2.mono d3.out.size))
 have f1:∀ j,bv.ownBlock=some j→own j=0:=fun j hj=>h1.out.wf j (g3 j hj)
 replace q2:=hd_ q2;replace f1:=hd_ f1;clear g2 hL g3;iterate 5 (refine Z0n rfl ?_;go_big_quiet_step (fail);refine wpQuiet_nil ?_)
 refine Z0c ?_
 -- whom it is for
 go_upto_region 4 with (fail)
 refine Z05 (fun _=>False) (.q 0 (.q 1 (.q 2 (.q 3 (.q 4 (.q 5 (.l 6 (.q 7 .fin)))))))) (by kernel_rfl) (by kernel_rfl) ?_
 intro w3 i3 a2
 have h3:=h2.out.grow a2
 have p2:=Z02 o3.out a2
 have d1:=Z01 (F:=fun _=>False) (b:=w3) (fun h=>h) h3.cnet
 have x2:=Z01 (F:=fun _=>False) (b:=w3) (fun h=>h) (show w3.cell? ⟨sb,2,none⟩=some (.int .i64 k) from Z00 p2 2)
 have hT:=Zm3 h3.nt k hk
 rw [← hm.out] at hT
 replace hT:=hd_ hT
 have f3:=hd_ (e3.out.trans (a2.mono e3.out.size))
 have r2:=hd_ (q2.out.below a2)
 replace h3:=hd_ h3;replace p2:=hd_ p2;replace i3:=hd_ i3;replace a2:=hd_ a2;iterate 6 (refine Z0n rfl ?_;go_big_quiet_step (fail);refine wpQuiet_nil ?_)
 clear d1 x2;refine Z0j rfl (by kernel_rfl) ?_;intro K1 hK;go_simp
 refine hT.out.mono ?_
 rintro r w4 ⟨rfl,b2⟩
 refine hK _ _ (.of_below b2) ?_
 clear hK K1
 have h4:=h3.out.grow b2
 have x1:=Z02 p2.out b2
 have n3:=hd_ (f3.out.trans (b2.mono f3.out.size))
 have o1:=hd_ (r2.out.below b2)
 clear b2 hT;refine Z0n rfl ?_;go_big_quiet_step (fail);refine wpQuiet_nil ?_;refine Z0c ?_
 obtain⟨too,g0⟩:∃ t,t=m.too:=⟨_,rfl⟩
 rw [← g0]
 replace g0:=hd_ g0
 have y0:w4.cell? ⟨sb,0,none⟩=some (.int .i64 fn):=Z00 x1 0
 have ly:=Z04 x1
 replace h4:=hd_ h4;replace x1:=hd_ x1
 have k4:=hd_ (KeepW.below (own:=own) n3.out)
 rcases hfn with rfl | rfl | rfl
 ·go_upto_region 6 with (fail)
  refine Z05 (fun _=>False) (.q 0 (.q 1 (.q 2 (.q 3 (.q 4 (.q 5 (.cut (.l 6 .fin)))))))) (by kernel_rfl) (by kernel_rfl) ?_
  intro w5 i2 q0
  have p0:=h4.out.grow q0
  have k1:=Z02 x1.out q0
  have d1:=Z01 (F:=fun _=>False) (b:=w5) (fun h=>h) p0.cnet
  have x2:=Z01 (F:=fun _=>False) (b:=w5) (fun h=>h) (show w5.cell? ⟨sb,2,none⟩=some (.int .i64 k) from Z00 k1 2)
  have hD:=hd_ (Zbj p0.nt p0.wf k hk (by have:=hf.out.n400;omega))
  have x0:=hd_ (o1.out.below q0)
  have k5:=hd_ (k4.out.trans (.below (own:=own) q0))
  replace p0:=hd_ p0;replace k1:=hd_ k1;replace i2:=hd_ i2;replace q0:=hd_ q0;iterate 6 (refine Z0n rfl ?_;go_big_quiet_step (fail);refine wpQuiet_nil ?_)
  clear d1 x2;refine Z0h Z1j ?_;refine Z0j rfl (by kernel_rfl) ?_;intro K1 hK;go_simp
  refine hD.out.mono ?_
  rintro r w6 ⟨rfl,nv6,j2,t6⟩
  refine hK _ _ (Z0l t6) ?_
  clear hK K1
  obtain⟨h6,k6⟩:=p0.out.net t6 j2
  have y2:own sb=0:=j1.out
  have n0:=Z0g k1.out t6.chg (by rw [y2];omega)
  have d0:=x0.out.same (w':=w6) fun j hj=>t6.chg.block j (by
   obtain⟨a7,c7,e7,_,_,g1⟩:=x0.out
   by_cases h0:0<(Z4w m).length
   ·obtain⟨b8,o8,rfl,s2⟩:=g1 h0
    rw [e7] at hj
    cases hj
    exact Z0f (s2 0 h0)
   ·exfalso;apply h0;unfold Z4w;rw [Z2r];omega) (by rw [f1.out j hj];omega)
  have k7:=hd_ (k5.out.trans k6)
  clear t6 j2 k6 hD;refine Z0c ?_
  obtain⟨A5,o0⟩:∃ A5,A5={ A with nv:=nv6 }:=⟨_,rfl⟩
  have s0:W1={ W with net:=W.net.eraseIdx k }:=e1.out
  rw [← o0,← s0] at h6
  have i1:SameA A A5:=o0 ▸ ⟨rfl,rfl,rfl,fun _=>rfl⟩
  replace h6:=hd_ h6;replace n0:=hd_ n0;replace d0:=hd_ d0;replace o0:=hd_ o0;replace s0:=hd_ s0
  have y6:w6.cell? ⟨sb,0,none⟩=some (.int .i64 3):=Z00 n0.out 0
  have m3:=Z04 n0.out
  clear y0 ly
  have e2:Wr=W1.hear m:=t0.out
  replace e2:=hd_ e2
  have v1:=i1.wb
  have m0:(∃ (i:Nat) (s:Nd),too=(i:Int)∧1≤i∧(i:Int)≤W1.n∧(Z0i W1 i).s=some s)∨(W1.node m.too=none∧∀ (own:Nat→Nat) (A:WlAt) (w:World),WlO own w0 w A W1→Calls Tryz.prog 45 #[Z09 A.wb, .int .i64 too] w fun r w'=>r=.returned (.pointer none)∧Below w.heap.size w w'):=by
   by_cases a1:1≤too∧too≤W1.n
   ·obtain⟨i,hi⟩:∃ i:Nat,too=(i:Int):=⟨too.toNat,by omega⟩
    cases hs:(Z0i W1 i).s with
    | some s=>exact .inl ⟨i,s,hi,by omega,by omega,hs⟩
    | none=>
      refine .inr ⟨by rw [← g0.out,hi,Z47 (by omega) (by omega),hs],fun own A w h=>?_⟩
      rw [hi]
      have:=Z1n h (i:=i) (by omega) (by omega)
      unfold xV at this
      rw [hs] at this
      exact this
   ·exact .inr ⟨by rw [← g0.out];exact Z6t a1,fun own A w h=>Z69 h too a1⟩
  replace m0:=hd_ m0;replace v1:=hd_ v1;go_upto_region 8 with (fail)
  rw [← v1.out]
  refine Z0y (fun b o=>¬ (b=A5.wb∧o=33)) (.q 0 (.q 1 (.q 2 (.q 3 (.q 4 (.q 5 (.q 7 (.l 6 (.l 8 (.l 9 .fin)))))))))) (by kernel_rfl) (by kernel_rfl) ?_
  intro w7 g1 v0
  have h7:=h6.out.grow v0
  have d1:=Z1d (F:=fun b o=>¬ (b=A5.wb∧o=33)) (b:=w7) (fun h=>h ⟨rfl,rfl⟩) h7.cnet
  have p1:=hd_ (d0.out.below v0)
  have k8:=hd_ (k7.out.trans (.below (own:=own) v0))
  have n1:=hd_ h7.cnet
  replace h7:=hd_ h7;replace g1:=hd_ g1;replace v0:=hd_ v0;iterate 7 (refine Z6l rfl ?_;go_big_quiet_step (fail);refine wpQuiet_nil ?_)
  clear d1;refine Z4j rfl (by kernel_rfl) ?_;intro K1 hK;go_simp
  rcases m0.out with ⟨i,s,k2,l0,a1,hs⟩ | ⟨b1,q1⟩
  ·have hN:=Z1n h7.out l0 a1
   rw [← k2] at hN
   have y1:xV A5 W1 i=Z09 (A5.nd i).b:=by unfold xV;rw [hs];rfl
   rw [y1] at hN
   replace y1:=hd_ y1
   refine hN.mono ?_
   rintro r w8 ⟨rfl,b0⟩
   refine hK _ _ ((ChgC.refl _ _).on b0) ?_
   clear hK K1 hN
   have h8:=h7.out.grow b0
   have hH:=hd_ (wHear h8 j0.out (by omega) l0 hs bv m (p1.out.below b0) k0.out)
   have k9:=hd_ (k8.out.trans (.below (own:=own) b0))
   have c8:=hd_ h8.cnet
   replace h8:=hd_ h8
   have f0:=hd_ b0
   clear b0;refine Z4j rfl (by kernel_rfl) ?_;intro K1 hK;go_simp
   refine hH.out.mono ?_
   rintro r w9 ⟨v9,own9,A9,o9,rfl,h9,z1,s9,q9,e9⟩
   have c1:=Nat.le_trans f0.out.size z1.size
   refine hK _ _ ⟨c1,fun b o hb hF=>?_⟩ ?_
   ·obtain⟨rfl,rfl⟩:=Decidable.not_not.1 hF
    have:=h9.cnet
    rw [s9.wb,s9.nb] at this
    rw [this,n1.out]
   clear hK K1
   have t1:∀ x ∈ o9.map MsS.m,MayM x:=by rw [e9];exact (j0.out.pr i s l0 hs).ok.hearM m k0.out (by omega)
   have s1:=j0.out.put (c:=c) (d:=c+1) (by omega) l0 hs ((j0.out.pr i s l0 hs).hear m k0.out)
   have t2:o9.length≤1000000:=by
    have:=congrArg List.length e9
    rw [List.length_map] at this
    rw [this]
    exact Zez (j0.out.pr i s l0 hs).ok m (by omega)
   have hS:=Zdk h9 s1 v9 o9 q9 t1 t2
   rw [e9] at hS
   have z0:=hd_ (s1.send (l:=(s.hear m).2) (by rw [← e9];exact t1))
   have v2:A9.nb=A5.nb:=s9.nb
   rw [v2] at hS
   replace hS:=hd_ hS;replace h9:=hd_ h9
   have a3:=hd_ (k9.out.trans z1)
   have b3:=hd_ (i1.trans s9)
   clear hH z1 q9 t1 s1;refine Z4j rfl (by kernel_rfl) ?_;intro K1 hK;go_simp
   refine hS.out.mono ?_
   rintro r w10 ⟨own10,A10,c3,rfl,e0,a0,i0⟩
   refine hK _ _ ⟨Nat.le_trans c1 a0.size,fun b o hb hF=>?_⟩ ?_
   ·obtain⟨rfl,rfl⟩:=Decidable.not_not.1 hF
    have h1:=e0.cnet
    rw [i0.wb,i0.nb,s9.wb,s9.nb] at h1
    rw [h1,n1.out]
   clear hK K1;refine Z0c ?_
   have c0:Wr={ W1.put i (s.hear m).1 with net:=Z1x W1.net (s.hear m).2 }:=by rw [e2.out];exact Zbl (by rw [← g0.out];exact k2) l0 a1 hs
   replace e0:=hd_ e0;replace c0:=hd_ c0
   have l1:=hd_ (a3.out.trans a0)
   have m1:=hd_ (b3.out.trans i0)
   clear hS a0 i0 s9 e9;go_wp2
   go_ret
   first | exact⟨own10,A10,rfl,by rw [c0.out];exact e0.out,by rw [c0.out];exact z0.out,l1.out,m1.out⟩ | exact⟨rfl,own10,A10,by rw [c0.out];exact e0.out,by rw [c0.out];exact z0.out,l1.out,m1.out⟩
  ·have hN:=q1 own A5 w7 h7.out
   refine hN.mono ?_
   rintro r w8 ⟨rfl,b0⟩
   refine hK _ _ ((ChgC.refl _ _).on b0) ?_
   clear hK K1 hN
   have h8:=h7.out.grow b0
   have k9:=hd_ (k8.out.trans (.below (own:=own) b0))
   have hS:=Zdk h8 j0.out (.slice none 0 0) [] ⟨⟨none,0,rfl,Nat.le_refl _,Nat.zero_le _,fun h=>absurd h (Nat.lt_irrefl 0)⟩,fun k hk=>(by cases hk),fun x hx=>(by cases hx)⟩ (fun x hx=>by cases hx) (Nat.zero_le _)
   have hS:=hd_ (show Calls Tryz.prog 153 #[Z09 A5.nb, .slice none 0 0] w8 fun r w'=>∃ own' A' z,r=.returned (.int .i64 z)∧WlO own' w0 w' A' W1∧KeepW own own' w8 w'∧SameA A5 A' from hS)
   replace h8:=hd_ h8
   have f0:=hd_ b0
   clear b0;refine Z4j rfl (by kernel_rfl) ?_;intro K1 hK;go_simp
   refine (nHear _ _).mono ?_
   rintro r w9 ⟨rfl,rfl⟩
   refine hK _ _ ((ChgC.refl _ _).on f0.out) ?_
   clear hK K1;refine Z4j rfl (by kernel_rfl) ?_;intro K1 hK;go_simp
   refine hS.out.mono ?_
   rintro r w10 ⟨own10,A10,c3,rfl,e0,a0,i0⟩
   refine hK _ _ ⟨Nat.le_trans f0.out.size a0.size,fun b o hb hF=>?_⟩ ?_
   ·obtain⟨rfl,rfl⟩:=Decidable.not_not.1 hF
    have h1:=e0.cnet
    rw [i0.wb,i0.nb] at h1
    rw [h1,n1.out]
   clear hK K1;refine Z0c ?_
   have c0:Wr=W1:=by rw [e2.out];exact Zbm b1
   replace e0:=hd_ e0;replace c0:=hd_ c0
   have l1:=hd_ (k9.out.trans a0)
   have m1:=hd_ (i1.trans i0)
   clear hS a0 i0;go_wp2
   go_ret
   exact⟨own10,A10,rfl,by rw [c0.out];exact e0.out,by rw [c0.out];exact j0.out.up (Nat.le_succ c),l1.out,m1.out⟩
 ·go_upto_region 6 with (fail)
  refine Z05 (fun _=>False) (.q 0 (.q 1 (.q 2 (.q 3 (.q 4 (.q 5 (.cut (.l 6 .fin)))))))) (by kernel_rfl) (by kernel_rfl) ?_
  intro w5 i2 q0
  have p0:=h4.out.grow q0
  have k1:=Z02 x1.out q0
  have d1:=Z01 (F:=fun _=>False) (b:=w5) (fun h=>h) p0.cnet
  have x2:=Z01 (F:=fun _=>False) (b:=w5) (fun h=>h) (show w5.cell? ⟨sb,2,none⟩=some (.int .i64 k) from Z00 k1 2)
  have hD:=hd_ (Zbj p0.nt p0.wf k hk (by have:=hf.out.n400;omega))
  have x0:=hd_ (o1.out.below q0)
  have k5:=hd_ (k4.out.trans (.below (own:=own) q0))
  replace p0:=hd_ p0;replace k1:=hd_ k1;replace i2:=hd_ i2;replace q0:=hd_ q0;iterate 6 (refine Z0n rfl ?_;go_big_quiet_step (fail);refine wpQuiet_nil ?_)
  clear d1 x2;refine Z0h Z1j ?_;refine Z0j rfl (by kernel_rfl) ?_;intro K1 hK;go_simp
  refine hD.out.mono ?_
  rintro r w6 ⟨rfl,nv6,j2,t6⟩
  refine hK _ _ (Z0l t6) ?_
  clear hK K1
  obtain⟨h6,k6⟩:=p0.out.net t6 j2
  have y2:own sb=0:=j1.out
  have n0:=Z0g k1.out t6.chg (by rw [y2];omega)
  have d0:=x0.out.same (w':=w6) fun j hj=>t6.chg.block j (by
   obtain⟨a7,c7,e7,_,_,g1⟩:=x0.out
   by_cases h0:0<(Z4w m).length
   ·obtain⟨b8,o8,rfl,s2⟩:=g1 h0
    rw [e7] at hj
    cases hj
    exact Z0f (s2 0 h0)
   ·exfalso;apply h0;unfold Z4w;rw [Z2r];omega) (by rw [f1.out j hj];omega)
  have k7:=hd_ (k5.out.trans k6)
  clear t6 j2 k6 hD;refine Z0c ?_
  obtain⟨A5,o0⟩:∃ A5,A5={ A with nv:=nv6 }:=⟨_,rfl⟩
  have s0:W1={ W with net:=W.net.eraseIdx k }:=e1.out
  rw [← o0,← s0] at h6
  have i1:SameA A A5:=o0 ▸ ⟨rfl,rfl,rfl,fun _=>rfl⟩
  replace h6:=hd_ h6;replace n0:=hd_ n0;replace d0:=hd_ d0;replace o0:=hd_ o0;replace s0:=hd_ s0
  have y6:w6.cell? ⟨sb,0,none⟩=some (.int .i64 4):=Z00 n0.out 0
  have m3:=Z04 n0.out
  clear y0 ly
  have e2:Wr=W1:=t0.out
  go_wp2
  go_ret
  exact⟨own,A5,rfl,by rw [e2];exact h6.out,by rw [e2];exact j0.out.up (Nat.le_succ c),k7.out,i1⟩
 ·obtain⟨A5,o0⟩:∃ A5,A5=A:=⟨_,rfl⟩
  have s0:W1=W:=e1.out
  have i1:SameA A A5:=o0 ▸ .refl A
  have h6:=h4.out
  rw [← o0,← s0] at h6
  obtain⟨w6,n2⟩:∃ w6,w6=w4:=⟨_,rfl⟩
  have n0:=x1.out
  have d0:=o1.out
  have k7:=k4.out
  rw [← n2] at h6 n0 d0 k7
  have y6:w6.cell? ⟨sb,0,none⟩=some (.int .i64 5):=Z00 n0 0
  have m3:=Z04 n0
  replace h6:=hd_ h6;replace n0:=hd_ n0;replace d0:=hd_ d0;replace k7:=hd_ k7;replace o0:=hd_ o0;replace s0:=hd_ s0;clear y0 ly
  rw [← n2]
  replace n2:=hd_ n2
  have e2:Wr=W1.hear m:=t0.out
  replace e2:=hd_ e2
  have v1:=i1.wb
  have m0:(∃ (i:Nat) (s:Nd),too=(i:Int)∧1≤i∧(i:Int)≤W1.n∧(Z0i W1 i).s=some s)∨(W1.node m.too=none∧∀ (own:Nat→Nat) (A:WlAt) (w:World),WlO own w0 w A W1→Calls Tryz.prog 45 #[Z09 A.wb, .int .i64 too] w fun r w'=>r=.returned (.pointer none)∧Below w.heap.size w w'):=by
   by_cases a1:1≤too∧too≤W1.n
   ·obtain⟨i,hi⟩:∃ i:Nat,too=(i:Int):=⟨too.toNat,by omega⟩
    cases hs:(Z0i W1 i).s with
    | some s=>exact .inl ⟨i,s,hi,by omega,by omega,hs⟩
    | none=>
      refine .inr ⟨by rw [← g0.out,hi,Z47 (by omega) (by omega),hs],fun own A w h=>?_⟩
      rw [hi]
      have:=Z1n h (i:=i) (by omega) (by omega)
      unfold xV at this
      rw [hs] at this
      exact this
   ·exact .inr ⟨by rw [← g0.out];exact Z6t a1,fun own A w h=>Z69 h too a1⟩
  replace m0:=hd_ m0;replace v1:=hd_ v1;go_upto_region 8 with (fail)
  rw [← v1.out]
  refine Z0y (fun b o=>¬ (b=A5.wb∧o=33)) (.q 0 (.q 1 (.q 2 (.q 3 (.q 4 (.q 5 (.q 7 (.l 6 (.l 8 (.l 9 .fin)))))))))) (by kernel_rfl) (by kernel_rfl) ?_
  intro w7 g1 v0
  have h7:=h6.out.grow v0
  have d1:=Z1d (F:=fun b o=>¬ (b=A5.wb∧o=33)) (b:=w7) (fun h=>h ⟨rfl,rfl⟩) h7.cnet
  have p1:=hd_ (d0.out.below v0)
  have k8:=hd_ (k7.out.trans (.below (own:=own) v0))
  have n1:=hd_ h7.cnet
  replace h7:=hd_ h7;replace g1:=hd_ g1;replace v0:=hd_ v0;iterate 7 (refine Z6l rfl ?_;go_big_quiet_step (fail);refine wpQuiet_nil ?_)
  clear d1;refine Z4j rfl (by kernel_rfl) ?_;intro K1 hK;go_simp
  rcases m0.out with ⟨i,s,k2,l0,a1,hs⟩ | ⟨b1,q1⟩
  ·have hN:=Z1n h7.out l0 a1
   rw [← k2] at hN
   have y1:xV A5 W1 i=Z09 (A5.nd i).b:=by unfold xV;rw [hs];rfl
   rw [y1] at hN
   replace y1:=hd_ y1
   refine hN.mono ?_
   rintro r w8 ⟨rfl,b0⟩
   refine hK _ _ ((ChgC.refl _ _).on b0) ?_
   clear hK K1 hN
   have h8:=h7.out.grow b0
   have hH:=hd_ (wHear h8 j0.out (by omega) l0 hs bv m (p1.out.below b0) k0.out)
   have k9:=hd_ (k8.out.trans (.below (own:=own) b0))
   have c8:=hd_ h8.cnet
   replace h8:=hd_ h8
   have f0:=hd_ b0
   clear b0;refine Z4j rfl (by kernel_rfl) ?_;intro K1 hK;go_simp
   refine hH.out.mono ?_
   rintro r w9 ⟨v9,own9,A9,o9,rfl,h9,z1,s9,q9,e9⟩
   have c1:=Nat.le_trans f0.out.size z1.size
   refine hK _ _ ⟨c1,fun b o hb hF=>?_⟩ ?_
   ·obtain⟨rfl,rfl⟩:=Decidable.not_not.1 hF
    have:=h9.cnet
    rw [s9.wb,s9.nb] at this
    rw [this,n1.out]
   clear hK K1
   have t1:∀ x ∈ o9.map MsS.m,MayM x:=by rw [e9];exact (j0.out.pr i s l0 hs).ok.hearM m k0.out (by omega)
   have s1:=j0.out.put (c:=c) (d:=c+1) (by omega) l0 hs ((j0.out.pr i s l0 hs).hear m k0.out)
   have t2:o9.length≤1000000:=by
    have:=congrArg List.length e9
    rw [List.length_map] at this
    rw [this]
    exact Zez (j0.out.pr i s l0 hs).ok m (by omega)
   have hS:=Zdk h9 s1 v9 o9 q9 t1 t2
   rw [e9] at hS
   have z0:=hd_ (s1.send (l:=(s.hear m).2) (by rw [← e9];exact t1))
   have v2:A9.nb=A5.nb:=s9.nb
   rw [v2] at hS
   replace hS:=hd_ hS;replace h9:=hd_ h9
   have a3:=hd_ (k9.out.trans z1)
   have b3:=hd_ (i1.trans s9)
   clear hH z1 q9 t1 s1;refine Z4j rfl (by kernel_rfl) ?_;intro K1 hK;go_simp
   refine hS.out.mono ?_
   rintro r w10 ⟨own10,A10,c3,rfl,e0,a0,i0⟩
   refine hK _ _ ⟨Nat.le_trans c1 a0.size,fun b o hb hF=>?_⟩ ?_
   ·obtain⟨rfl,rfl⟩:=Decidable.not_not.1 hF
    have h1:=e0.cnet
    rw [i0.wb,i0.nb,s9.wb,s9.nb] at h1
    rw [h1,n1.out]
   clear hK K1;refine Z0c ?_
   have c0:Wr={ W1.put i (s.hear m).1 with net:=Z1x W1.net (s.hear m).2 }:=by rw [e2.out];exact Zbl (by rw [← g0.out];exact k2) l0 a1 hs
   replace e0:=hd_ e0;replace c0:=hd_ c0
   have l1:=hd_ (a3.out.trans a0)
   have m1:=hd_ (b3.out.trans i0)
   clear hS a0 i0 s9 e9;go_wp2
   go_ret
   first | exact⟨own10,A10,rfl,by rw [c0.out];exact e0.out,by rw [c0.out];exact z0.out,l1.out,m1.out⟩ | exact⟨rfl,own10,A10,by rw [c0.out];exact e0.out,by rw [c0.out];exact z0.out,l1.out,m1.out⟩
  ·have hN:=q1 own A5 w7 h7.out
   refine hN.mono ?_
   rintro r w8 ⟨rfl,b0⟩
   refine hK _ _ ((ChgC.refl _ _).on b0) ?_
   clear hK K1 hN
   have h8:=h7.out.grow b0
   have k9:=hd_ (k8.out.trans (.below (own:=own) b0))
   have hS:=Zdk h8 j0.out (.slice none 0 0) [] ⟨⟨none,0,rfl,Nat.le_refl _,Nat.zero_le _,fun h=>absurd h (Nat.lt_irrefl 0)⟩,fun k hk=>(by cases hk),fun x hx=>(by cases hx)⟩ (fun x hx=>by cases hx) (Nat.zero_le _)
   have hS:=hd_ (show Calls Tryz.prog 153 #[Z09 A5.nb, .slice none 0 0] w8 fun r w'=>∃ own' A' z,r=.returned (.int .i64 z)∧WlO own' w0 w' A' W1∧KeepW own own' w8 w'∧SameA A5 A' from hS)
   replace h8:=hd_ h8
   have f0:=hd_ b0
   clear b0;refine Z4j rfl (by kernel_rfl) ?_;intro K1 hK;go_simp
   refine (nHear _ _).mono ?_
   rintro r w9 ⟨rfl,rfl⟩
   refine hK _ _ ((ChgC.refl _ _).on f0.out) ?_
   clear hK K1;refine Z4j rfl (by kernel_rfl) ?_;intro K1 hK;go_simp
   refine hS.out.mono ?_
   rintro r w10 ⟨own10,A10,c3,rfl,e0,a0,i0⟩
   refine hK _ _ ⟨Nat.le_trans f0.out.size a0.size,fun b o hb hF=>?_⟩ ?_
   ·obtain⟨rfl,rfl⟩:=Decidable.not_not.1 hF
    have h1:=e0.cnet
    rw [i0.wb,i0.nb] at h1
    rw [h1,n1.out]
   clear hK K1;refine Z0c ?_
   have c0:Wr=W1:=by rw [e2.out];exact Zbm b1
   replace e0:=hd_ e0;replace c0:=hd_ c0
   have l1:=hd_ (k9.out.trans a0)
   have m1:=hd_ (i1.trans i0)
   clear hS a0 i0;go_wp2
   go_ret
   exact⟨own10,A10,rfl,by rw [c0.out];exact e0.out,by rw [c0.out];exact j0.out.up (Nat.le_succ c),l1.out,m1.out⟩
end
end
section
open Go.RowKit
def Wl.mail1 (W:Wl):Wl:=match W.net with
 | []=>W
 | m :: l=>{ W with net:=l }.hear m
def Wl.cost (W:Wl):Nat→Nat
 | 0=>0
 | k+1=>match W.net with
   | []=>0
   | m :: l=>({ W with net:=l }.hear m).cost k+1
def Wl.beat (W:Wl):Wl:={ W with real:=W.real+1 }.ticks W.n.toNat 1
def Wl.roundC (W:Wl):Nat:=22+W.beat.cost 3000
def Wl.roundsC (W:Wl):Nat→Nat
 | 0=>0
 | k+1=>W.roundC+W.round.roundsC k
theorem Zf0 (W:Wl):W.round=W.beat.mails 3000:=rfl
theorem Z4t (W:Wl):∀ k,W.rounds (k+1)=(W.rounds k).round
 | 0=>rfl
 | k+1=>Z4t W.round k
theorem Z48 (W:Wl):∀ k,W.roundsC (k+1)=W.roundsC k+(W.rounds k).roundC
 | 0=>by show W.roundC+0=0+W.roundC;omega
 | k+1=>by
   show W.roundC+W.round.roundsC (k+1)=W.roundC+W.round.roundsC k+(W.round.rounds k).roundC
   rw [Z48 W.round k];omega
theorem Z8p (W:Wl):∀ (k:Nat) (id:Int),W.ticks (k+1) id=(W.ticks k id).tick (id+k)
 | 0,id=>by show (W.tick id)=W.tick (id+(0:Nat));simp
 | k+1,id=>by
   show (W.tick id).ticks (k+1) (id+1)=((W.tick id).ticks k (id+1)).tick (id+(k+1:Nat))
   rw [Z8p (W.tick id) k (id+1)]
   congr 1
   omega
theorem Z4g {W:Wl} {m:Ms} {l:List Ms} (h:W.net=m :: l) (k:Nat):W.mails (k+1)=(W.mail1).mails k:=by
 show (match W.net with | []=>W | m :: l=>({ W with net:=l }.hear m).mails k)=_
 unfold Wl.mail1
 rw [h]
theorem Z49 {W:Wl} (h:W.net=[]):∀ k,W.mails k=W
 | 0=>rfl
 | k+1=>by
   show (match W.net with | []=>W | m :: l=>({ W with net:=l }.hear m).mails k)=_
   rw [h]
theorem Z7l {W:Wl} {m:Ms} {l:List Ms} (h:W.net=m :: l) (k:Nat):W.cost (k+1)=W.mail1.cost k+1:=by
 show (match W.net with | []=>0 | m :: l=>({ W with net:=l }.hear m).cost k+1)=_
 unfold Wl.mail1
 rw [h]
theorem Z9n {W:Wl} (h:W.net=[]):∀ k,W.cost k=0
 | 0=>rfl
 | k+1=>by
   show (match W.net with | []=>0 | m :: l=>({ W with net:=l }.hear m).cost k+1)=_
   rw [h]
theorem Z7m {W:Wl} (h:W.net=[]):W.mail1=W:=by unfold Wl.mail1;rw [h]
theorem Z4h (W:Wl):∀ k,W.mails (k+1)=(W.mails k).mail1
 | 0=>by
   cases h:W.net with
   | nil=>rw [Z49 h,Z49 h,Z7m h]
   | cons m l=>rw [Z4g h];rfl
 | k+1=>by
   cases h:W.net with
   | nil=>rw [Z49 h,Z49 h,Z7m h]
   | cons m l=>rw [Z4g h,Z4g h,Z4h W.mail1 k]
theorem Z6a {W:Wl} {j:Nat} (h:(W.mails j).net=[]):∀ d,W.mails (j+d)=W.mails j
 | 0=>rfl
 | d+1=>by rw [show j+(d+1)=(j+d)+1 by omega,Z4h,Z6a h d,Z7m h]
theorem Z7n (W:Wl):∀ k,W.cost (k+1)=W.cost k+if (W.mails k).net=[] then 0 else 1:=by
 intro k
 induction k generalizing W with
 | zero=>
   cases h:W.net with
   | nil=>
     have:(W.mails 0).net=[]:=h
     rw [Z9n h,if_pos this];rfl
   | cons m l=>
     have:¬ (W.mails 0).net=[]:=by show ¬ W.net=[];rw [h];simp
     rw [Z7l h,if_neg this];rfl
 | succ k ih=>
   cases h:W.net with
   | nil=>rw [Z9n h,Z9n h,Z49 h,if_pos h]
   | cons m l=>rw [Z7l h,Z7l h,Z4g h,ih W.mail1];omega
theorem Zbo {W:Wl} {j:Nat} (h:(W.mails j).net=[]):∀ d,W.cost (j+d)=W.cost j
 | 0=>rfl
 | d+1=>by
   rw [show j+(d+1)=(j+d)+1 by omega,Z7n,Z6a h d,if_pos h,Zbo h d];omega
theorem Zbp (W:Wl) (j:Nat):∀ d,W.cost j≤W.cost (j+d)
 | 0=>Nat.le_refl _
 | d+1=>by rw [show j+(d+1)=(j+d)+1 by omega,Z7n];have:=Zbp W j d;omega
theorem Z4a (W:Wl) (j:Nat):∀ d,W.roundsC j≤W.roundsC (j+d)
 | 0=>Nat.le_refl _
 | d+1=>by rw [show j+(d+1)=(j+d)+1 by omega,Z48];have:=Z4a W j d;omega
theorem Zgo {W:Wl} {m:Ms} {l:List Ms} (h:W.net=m :: l):(W.mail 3 0).1=W.mail1:=by
 unfold Wl.mail Wl.mail1
 rw [h]
 rfl
theorem n_tick (W:Wl) (i:Int):(W.tick i).n=W.n:=by unfold Wl.tick;split<;>rfl
theorem Zjz (W:Wl):∀ (k:Nat) (i:Int),(W.ticks k i).n=W.n:=by
 intro k
 induction k generalizing W with
 | zero=>exact fun i=>rfl
 | succ k ih=>exact fun i=>(ih (W.tick i) (i+1)).trans (n_tick W i)
theorem n_hear (W:Wl) (m:Ms):(W.hear m).n=W.n:=by unfold Wl.hear;split<;>rfl
theorem n_mail1 (W:Wl):W.mail1.n=W.n:=by
 unfold Wl.mail1
 split
 ·rfl
 ·exact n_hear _ _
theorem Zk0 (W:Wl):∀ k,(W.mails k).n=W.n
 | 0=>rfl
 | k+1=>by rw [Z4h,n_mail1,Zk0 W k]
theorem n_round (W:Wl):W.round.n=W.n:=by rw [Zf0,Zk0];exact Zjz _ _ _
theorem Z6u (W:Wl):∀ k,(W.rounds k).n=W.n
 | 0=>rfl
 | k+1=>by rw [Z4t,n_round,Z6u W k]
end
section
open Go.RowKit
section
variable {own own':Nat→Nat} {w0 w w':World} {A A':WlAt} {W:Wl} {i c:Nat} {s:Nd}
theorem WlO.setReal (h:WlO own w0 w A W) (x:Int):WlO own w0 (w.setCell ⟨A.wb,34,none⟩ (.int .i64 x)) A { W with real:=x }∧KeepW own own w (w.setCell ⟨A.wb,34,none⟩ (.int .i64 x)):=
 h.own1 (.same (Z06 (Chg.refl _ _) h.ob) h.wf) (Z0d h.blk) rfl rfl rfl fun i s h1 hs=>rfl
theorem Zgp (h:WlO own w0 w A W) (hf:WOk c W) (n:Nat) (hn:n≤200) (hc:c+W.roundsC n≤390000) :
  Calls Tryz.prog 99 #[Z09 A.wb, .int .i64 n] w fun r w'=>∃ own' A',r=.returned (.int .i64 0)∧WlO own' w0 w' A' (W.rounds n)∧WOk (c+W.roundsC n) (W.rounds n)∧KeepW own own' w w'∧SameA A A':=by
 replace h:=hd_ h;replace hf:=hd_ hf
 have e1:decide ((n:Int)<0)=false:=decide_eq_false (by omega)
 have e2:decide ((200:Int)<(n:Int))=false:=decide_eq_false (by omega)
 go_enter Tryz.func99,Tryz.ntmps99
 go_wp2
 go_loopw [13] (fun i wr=>∃ (k:Nat) (own':Nat→Nat) (A':WlAt),k≤n∧i=.int .i64 k∧WlO own' w0 wr A' (W.rounds k)∧WOk (c+W.roundsC k) (W.rounds k)∧KeepW own own' w wr∧SameA A A') (fun i _=>n-(intOf i).toNat)
 case atStart=>exact⟨0,own,A,Nat.zero_le _,rfl,h.out,hf.out,KeepW.refl _ _, .refl A⟩
 case round=>
  obtain⟨k,ownK,AK,hk,rfl,j0,k0,kK,sK⟩:=hrel
  clear e1 e2
  by_cases hlt:k<n
  ·have g1:=Z4a W (k+1) (n-(k+1))
   rw [show k+1+(n-(k+1))=n by omega] at g1
   have q1:=Z4t W k
   have i2:=Z48 W k
   generalize W.rounds k=Wk at j0 k0 q1 i2
   obtain⟨c1,d2⟩:∃ c1,c1=c+W.roundsC k:=⟨_,rfl⟩
   rw [← d2] at k0
   have hcc:c1+Wk.roundC≤390000:=by omega
   have f0:c+W.roundsC (k+1)=c1+Wk.roundC:=by omega
   have l1:Wk.roundC=22+Wk.beat.cost 3000:=rfl
   have p1:=Zf0 Wk
   obtain⟨B0,n1⟩:∃ B0:Wl,B0={ Wk with real:=Wk.real+1 }:=⟨_,rfl⟩
   have b2:Wk.beat=B0.ticks B0.n.toNat 1:=by rw [n1];rfl
   have hr0:=k0.r0
   have hr1:=k0.r1
   have s1:=sK.wb
   have s2:=j0.creal
   have z2:=Z03 j0.blk 34
   have y2:=Z04 j0.blk
   have i1:=hd_ (j0.setReal (Wk.real+1))
   have j2:WOk (c1+1) B0:=by
    rw [n1]
    have:=k0.up (Nat.le_succ c1)
    exact⟨this.pr,this.net,this.n400,by show 0≤Wk.real+1;omega,by show Wk.real+1≤((c1+1:Nat):Int);omega⟩
   rw [s1] at s2 z2 y2
   have x2:Wk.real≤400000:=by omega
   replace j0:=hd_ j0;replace k0:=hd_ k0;replace kK:=hd_ kK;replace sK:=hd_ sK;replace j2:=hd_ j2;replace l1:=hd_ l1;replace p1:=hd_ p1;replace b2:=hd_ b2;replace q1:=hd_ q1;replace i2:=hd_ i2;replace g1:=hd_ g1;replace f0:=hd_ f0;replace d2:=hd_ d2
   obtain⟨w5,x1⟩:∃ w5,w5=wr.setCell ⟨A.wb,34,none⟩ (.int .i64 (Wk.real+1)):=⟨_,rfl⟩
   go_upto_region 6 with (fail)
   rw [← x1]
   have b1:=i1.out
   rw [s1,← x1,← n1] at b1
   obtain⟨h5,k5⟩:=b1
   have k6:=hd_ (kK.out.trans k5)
   have a3:=h5.n3
   have b3:=h5.n7
   obtain⟨N,hN⟩:∃ N:Nat,(N:Int)=B0.n:=⟨B0.n.toNat,by omega⟩
   have z1:B0.n.toNat=N:=by omega
   replace h5:=hd_ h5;replace x1:=hd_ x1;replace i1:=hd_ i1;replace n1:=hd_ n1;replace hN:=hd_ hN;replace z1:=hd_ z1
   have c3:N≤7:=by have:=hN.out;omega
   clear s2 z2 y2 k5 a3 b3;go_wp2
   go_loopw [5] (fun i wr=>∃ (j:Nat) (own':Nat→Nat) (A':WlAt),j≤N∧i=.int .i64 ((j+1:Nat):Int)∧WlO own' w0 wr A' (B0.ticks j 1)∧WOk (c1+1+3*j) (B0.ticks j 1)∧KeepW own own' w wr∧SameA A A') (fun i _=>N+1-(intOf i).toNat)
   case atStart=>exact⟨0,ownK,AK,Nat.zero_le _,by go_num,h5.out,j2.out,k6.out,sK.out⟩
   case round=>
    obtain⟨j,ownX,AX,hj,rfl,h6,h0,k7,a1⟩:=hrel
    have w2:(B0.ticks j 1).n=(N:Int):=by rw [Zjz,hN.out]
    have n0:=Z8p B0 j 1
    rw [show (1:Int)+(j:Int)=((j+1:Nat):Int) by omega] at n0
    have l2:B0.ticks N 1=Wk.beat:=by rw [b2.out,z1.out]
    have x0:=a1.wb
    have c0:=h6.cn
    have l0:=Z04 h6.blk
    rw [w2,x0] at c0
    rw [x0] at l0
    by_cases hjl:j<N
    ·generalize B0.ticks j 1=W1 at h6 h0 n0 w2
     obtain⟨cc,g2⟩:∃ cc,cc=c1+1+3*j:=⟨_,rfl⟩
     rw [← g2] at h0
     have d3:cc<398000:=by omega
     have i3:decide ((j:Int)+1≤(N:Int))=true:=decide_eq_true (by omega)
     replace x0:=hd_ x0;replace h6:=hd_ h6;replace h0:=hd_ h0;replace a1:=hd_ a1;replace k7:=hd_ k7;replace n0:=hd_ n0;replace l2:=hd_ l2
     have f3:((j+1:Nat):Int)=(j:Int)+1:=by omega
     go_upto_region 9 with (fail)
     rw [← x0.out]
     refine Z0y (fun b o=>¬ (b=AX.wb∧o=33)) (.q 0 (.q 1 (.q 2 (.q 3 (.q 4 (.q 5 (.l 6 (.l 7 (.l 8 .fin))))))))) (by kernel_rfl) (by kernel_rfl) ?_
     intro w7 t2 t1
     have h7:=h6.out.grow t1
     have l3:=Z1d (F:=fun b o=>¬ (b=AX.wb∧o=33)) (b:=w7) (fun h=>h ⟨rfl,rfl⟩) h7.cnet
     have k8:=hd_ (k7.out.trans (.below t1))
     have y1:=hd_ h7.cnet
     replace h7:=hd_ h7;replace t2:=hd_ t2;replace t1:=hd_ t1;iterate 6 (refine Z6l rfl ?_;go_big_quiet_step (fail);refine wpQuiet_nil ?_)
     clear l3;refine Z4j rfl (by kernel_rfl) ?_;intro K1 hK;go_simp
     have hN:=Z1n h7.out (i:=j+1) (by omega) (by omega)
     cases hs:(Z0i W1 (j+1)).s with
     | some s=>
       have k1:xV AX W1 (j+1)=Z09 (AX.nd (j+1)).b:=by unfold xV;rw [hs];rfl
       rw [k1] at hN
       replace k1:=hd_ k1
       refine hN.mono ?_
       rintro r w8 ⟨rfl,i0⟩
       refine hK _ _ ((ChgC.refl _ _).on i0) ?_
       clear hK K1 hN
       have h8:=h7.out.grow i0
       have hH:=hd_ (wTick h8 h0.out (by omega) (by omega) hs)
       have k9:=hd_ (k8.out.trans (.below i0))
       replace h8:=hd_ h8
       have q0:=hd_ i0
       clear i0;refine Z4j rfl (by kernel_rfl) ?_;intro K1 hK;go_simp
       refine hH.out.mono ?_
       rintro r w9 ⟨v9,own9,A9,o9,rfl,h9,m1,s9,q9,e9⟩
       have j1:=Nat.le_trans q0.out.size m1.size
       refine hK _ _ ⟨j1,fun b o hb hF=>?_⟩ ?_
       ·obtain⟨rfl,rfl⟩:=Decidable.not_not.1 hF
        have:=h9.cnet
        rw [s9.wb,s9.nb] at this
        rw [this,y1.out]
       clear hK K1
       have hF:=h0.out.pr (j+1) s (by omega) hs
       have v0:=hF.ok.tickM hF.mn (by omega)
       have v2:∀ x ∈ o9.map MsS.m,MayM x:=by rw [e9];exact v0.2
       have f1:=h0.out.put (c:=cc) (d:=cc+3) (by omega) (by omega) hs (hF.tick (by omega))
       have g3:o9.length≤1000000:=by
        have:=congrArg List.length e9
        rw [List.length_map] at this
        have:=v0.1
        omega
       have hS:=Zdk h9 f1 v9 o9 q9 v2 g3
       rw [e9] at hS
       have k2:=hd_ (f1.send (l:=s.tick.2) v0.2)
       have j3:A9.nb=AX.nb:=s9.nb
       rw [j3] at hS
       replace hS:=hd_ hS;replace h9:=hd_ h9
       have k3:=hd_ (k9.out.trans m1)
       have q2:=hd_ (a1.out.trans s9)
       clear hH m1 q9 v2 f1 hF v0;refine Z4j rfl (by kernel_rfl) ?_;intro K1 hK;go_simp
       refine hS.out.mono ?_
       rintro r w10 ⟨own10,A10,m3,rfl,o0,e0,y0⟩
       refine hK _ _ ⟨Nat.le_trans j1 e0.size,fun b o hb hF=>?_⟩ ?_
       ·obtain⟨rfl,rfl⟩:=Decidable.not_not.1 hF
        have h1:=o0.cnet
        rw [y0.wb,y0.nb,s9.wb,s9.nb] at h1
        rw [h1,y1.out]
       clear hK K1;refine Z0c ?_
       have p0:W1.tick ((j+1:Nat):Int)={ W1.put (j+1:Nat) s.tick.1 with net:=Z1x W1.net s.tick.2 }:=by
        unfold Wl.tick
        rw [Z47 (by omega) (by omega),hs]
       replace o0:=hd_ o0;replace p0:=hd_ p0
       have p2:=hd_ (k3.out.trans e0)
       have r2:=hd_ (q2.out.trans y0)
       clear hS e0 y0 s9 e9 j1 hs
       rw [x0.out]
       go_wp2
       go_roundw
       case rel=>exact⟨j+1,own10,A10,by omega,by go_num,by rw [n0.out,p0.out];exact o0.out,by rw [n0.out,p0.out];exact k2.out.up (by omega),p2.out,r2.out⟩
       case measure=>simp [intOf];omega
     | none=>
       have k1:xV AX W1 (j+1)=.pointer none:=by unfold xV;rw [hs];rfl
       rw [k1] at hN
       replace k1:=hd_ k1
       refine hN.mono ?_
       rintro r w8 ⟨rfl,i0⟩
       refine hK _ _ ((ChgC.refl _ _).on i0) ?_
       clear hK K1 hN
       have h8:=h7.out.grow i0
       have k9:=hd_ (k8.out.trans (.below i0))
       have hS:=Zdk h8 h0.out (.slice none 0 0) [] ⟨⟨none,0,rfl,Nat.le_refl _,Nat.zero_le _,fun h=>absurd h (Nat.lt_irrefl 0)⟩,fun k hk=>(by cases hk),fun x hx=>(by cases hx)⟩ (fun x hx=>by cases hx) (Nat.zero_le _)
       have hS:=hd_ (show Calls Tryz.prog 153 #[Z09 AX.nb, .slice none 0 0] w8 fun r w'=>∃ own' A' z,r=.returned (.int .i64 z)∧WlO own' w0 w' A' W1∧KeepW ownX own' w8 w'∧SameA AX A' from hS)
       replace h8:=hd_ h8
       have q0:=hd_ i0
       clear i0;refine Z4j rfl (by kernel_rfl) ?_;intro K1 hK;go_simp
       refine (nTick _).mono ?_
       rintro r w9 ⟨rfl,rfl⟩
       refine hK _ _ ((ChgC.refl _ _).on q0.out) ?_
       clear hK K1;refine Z4j rfl (by kernel_rfl) ?_;intro K1 hK;go_simp
       refine hS.out.mono ?_
       rintro r w10 ⟨own10,A10,m3,rfl,o0,e0,y0⟩
       refine hK _ _ ⟨Nat.le_trans q0.out.size e0.size,fun b o hb hF=>?_⟩ ?_
       ·obtain⟨rfl,rfl⟩:=Decidable.not_not.1 hF
        have h1:=o0.cnet
        rw [y0.wb,y0.nb] at h1
        rw [h1,y1.out]
       clear hK K1;refine Z0c ?_
       have p0:W1.tick ((j+1:Nat):Int)=W1:=by
        unfold Wl.tick
        rw [Z47 (by omega) (by omega),hs]
       replace o0:=hd_ o0;replace p0:=hd_ p0
       have p2:=hd_ (k9.out.trans e0)
       have r2:=hd_ (a1.out.trans y0)
       clear hS e0 y0 hs
       rw [x0.out]
       go_wp2
       go_roundw
       case rel=>exact⟨j+1,own10,A10,by omega,by go_num,by rw [n0.out,p0.out];exact o0.out,by rw [n0.out,p0.out];exact h0.out.up (by omega),p2.out,r2.out⟩
       case measure=>simp [intOf];omega
    ·have m2:j=N:=by omega
     subst m2
     rw [l2] at h6 h0
     have i3:decide ((j:Int)+1≤(j:Int))=false:=decide_eq_false (by omega)
     generalize Wk.beat=Bt at h6 h0 l1 p1
     obtain⟨c2,v1⟩:∃ c2,c2=c1+22:=⟨_,rfl⟩
     have e3:=hd_ (h0.up (show c1+1+3*j≤c2 by omega))
     have f2:c2+Bt.cost 3000≤390000:=by have:=l1.out;omega
     replace h6:=hd_ h6;replace a1:=hd_ a1;replace k7:=hd_ k7;replace x0:=hd_ x0;replace n0:=hd_ n0;replace v1:=hd_ v1;replace f2:=hd_ f2
     rw [show ((j+1:Nat):Int)=(j:Int)+1 by omega]
     go_wp2
     go_loopw [39] (fun i wr=>∃ (q:Nat) (own':Nat→Nat) (A':WlAt),q≤3000∧i=.int .i64 q∧Bt.cost q=q∧WlO own' w0 wr A' (Bt.mails q)∧WOk (c2+q) (Bt.mails q)∧KeepW own own' w wr∧SameA A A') (fun i _=>3000-(intOf i).toNat)
     case atStart=>exact⟨0,ownX,AX,Nat.zero_le _,rfl,rfl,h6.out,e3.out,k7.out,a1.out⟩
     case round=>
      obtain⟨q,ownY,AY,hq,rfl,z0,h8,t0,k8,m0⟩:=hrel
      have g0:Bt.cost q≤Bt.cost 3000:=by have:=Zbp Bt q (3000-q);rw [show q+(3000-q)=3000 by omega] at this;exact this
      have d1:=f2.out
      have d0:=m0.wb
      by_cases hlt3:q<3000
      ·have o1:decide ((q:Int)<(3000:Int))=true:=decide_eq_true (by omega)
       cases hnl:(Bt.mails q).net with
       | nil=>
         have hM:=Z8o h8 3 0 0 0 0 ⟨#[]⟩ (by rw [hnl];simp)
         rw [d0] at hM
         replace hM:=hd_ hM
         have a0:W.rounds (k+1)=Bt.mails q:=by rw [q1.out,p1.out];have:=Z6a hnl (3000-q);rw [show q+(3000-q)=3000 by omega] at this;exact this
         have b0:W.roundsC (k+1)+c=c2+q:=by
          have h1:=Zbo hnl (3000-q)
          rw [show q+(3000-q)=3000 by omega] at h1
          have h2:=f0.out
          have h3:=l1.out
          have h4:=v1.out
          omega
         replace a0:=hd_ a0;replace b0:=hd_ b0;replace h8:=hd_ h8;replace t0:=hd_ t0;replace k8:=hd_ k8;replace m0:=hd_ m0;replace z0:=hd_ z0;replace g0:=hd_ g0;replace hnl:=hd_ hnl;replace d0:=hd_ d0;clear d1;go_wp2_with fail
         refine hM.out.mono ?_
         rintro r w9 ⟨rfl,a2⟩
         have h9:=hd_ (h8.out.grow a2)
         have k9:=hd_ (k8.out.trans (.below (own:=ownY) a2))
         clear hM a2;go_wp2
         go_roundw
         case rel=>exact⟨k+1,ownY,AY,by omega,by go_num,by rw [a0.out];exact h9.out,by rw [a0.out,Nat.add_comm,b0.out];exact t0.out,k9.out,m0.out⟩
         case measure=>simp [intOf];omega
       | cons m l=>
         have s0:=Z7n Bt q
         rw [if_neg (by rw [hnl];simp)] at s0
         have hM:=Zbn h8 t0 (by omega) 3 0 0 0 0 ⟨#[]⟩ (by rw [hnl];simp) (.inl rfl)
         have n2:=Zgo hnl
         have o2:=Z4h Bt q
         rw [show ((0:Nat):Int)=0 from rfl,n2,← o2,d0] at hM
         replace hM:=hd_ hM;replace h8:=hd_ h8;replace t0:=hd_ t0;replace k8:=hd_ k8;replace m0:=hd_ m0;replace s0:=hd_ s0;replace z0:=hd_ z0;replace g0:=hd_ g0;replace hnl:=hd_ hnl;replace d0:=hd_ d0;replace o2:=hd_ o2;replace n2:=hd_ n2;clear d1;go_wp2_with fail
         refine hM.out.mono ?_
         rintro r w9 ⟨own9,A9,rfl,h9,f1,m1,s9⟩
         have k9:=hd_ (k8.out.trans m1)
         have q2:=hd_ (m0.out.trans s9)
         replace h9:=hd_ h9;replace f1:=hd_ f1;clear hM m1 s9;go_wp2
         go_roundw
         case rel=>exact⟨q+1,own9,A9,by omega,by go_num,by rw [s0.out,z0.out],h9.out,f1.out,k9.out,q2.out⟩
         case measure=>simp [intOf];omega
      ·have w1:q=3000:=by omega
       have o1:decide ((q:Int)<(3000:Int))=false:=decide_eq_false (by omega)
       have a0:W.rounds (k+1)=Bt.mails q:=by rw [q1.out,p1.out,w1]
       have b0:W.roundsC (k+1)+c=c2+q:=by
        have h2:=f0.out
        have h3:=l1.out
        have h4:=v1.out
        rw [w1] at z0
        omega
       replace a0:=hd_ a0;replace b0:=hd_ b0;replace h8:=hd_ h8;replace t0:=hd_ t0;replace k8:=hd_ k8;replace m0:=hd_ m0;replace z0:=hd_ z0;replace g0:=hd_ g0;replace d0:=hd_ d0;replace w1:=hd_ w1;clear d1;go_wp2
       go_roundw
       case rel=>exact⟨k+1,ownY,AY,by omega,by go_num,by rw [a0.out];exact h8.out,by rw [a0.out,Nat.add_comm,b0.out];exact t0.out,k8.out,m0.out⟩
       case measure=>simp [intOf];omega
  ·obtain rfl:k=n:=by omega
   replace j0:=hd_ j0;replace k0:=hd_ k0;replace kK:=hd_ kK;replace sK:=hd_ sK;go_wp2
   go_ret
   exact⟨ownK,AK,rfl,j0.out,k0.out,kK.out,sK.out⟩
end
end
section
open Go.RowKit
section
variable {own:Nat→Nat} {K:Nat} {w:World} {a:NdAt} {s:Nd} {out:List MsS}
theorem ndKnows (h:NdO own K w a s out):Calls Tryz.prog 111 #[Z09 a.b] w fun r w'=>r=.returned (.bool s.knows)∧w=w':=by
 have c0:w.cell? ⟨a.b,8,none⟩=some (.bool s.knows):=h.c 8
 have hl:=h.lt
 clear h
 go_enter Tryz.func111,Tryz.ntmps111
 go_wp2
 go_ret
 exact⟨rfl,rfl⟩
theorem ndCommit (h:NdO own K w a s out):Calls Tryz.prog 31 #[Z09 a.b] w fun r w'=>r=.returned (.int .i64 s.com)∧w=w':=by
 have c0:w.cell? ⟨a.b,10,none⟩=some (.int .i64 s.com):=h.c 10
 have hl:=h.lt
 clear h
 go_enter Tryz.func31,Tryz.ntmps31
 go_wp2
 go_ret
 exact⟨rfl,rfl⟩
theorem ndView (h:NdO own K w a s out) (hm:0≤s.mem∧s.mem<128):Calls Tryz.prog 28 #[Z09 a.b] w fun r w'=>r=.returned (.tuple #[.int .i64 s.view.1, .int .i64 s.view.2.1, .bool s.view.2.2])∧Below w.heap.size w w':=by
 have hl:=h.lt
 have b0:w.cell? ⟨a.b,11,none⟩=some (.int .i64 s.last):=h.c 11
 have c0:w.cell? ⟨a.b,12,none⟩=some (.int .i64 s.mem):=h.c 12
 have hI:=hd_ (Z41 own K a s out w h hm)
 have hv:s.view=if s.in_ then (s.last,s.mem,true) else (0,0,false):=rfl
 rw [hv]
 generalize s.in_=i at hI ⊢
 clear h hv
 cases i
 ·go_enter Tryz.func28,Tryz.ntmps28
  go_wp2_with fail
  refine hI.out.mono ?_
  rintro r w1 ⟨rfl,a0⟩;replace a0:=hd_ a0;clear hI b0 c0;go_wp2
  exact bodyPost_ret (v:=.tuple #[.int .i64 0, .int .i64 0, .bool false]) (by simp [results,Tryz.results28,go_sem]) rfl ⟨rfl,a0.out⟩
 ·go_enter Tryz.func28,Tryz.ntmps28
  go_wp2_with fail
  refine hI.out.mono ?_
  rintro r w1 ⟨rfl,a0⟩
  have d11:w1.cell? ⟨a.b,11,none⟩=some (.int .i64 s.last):=by rw [a0.cell hl];exact b0
  have d12:w1.cell? ⟨a.b,12,none⟩=some (.int .i64 s.mem):=by rw [a0.cell hl];exact c0
  have hl1:a.b<w1.heap.size:=Nat.lt_of_lt_of_le hl a0.size
  replace a0:=hd_ a0;clear hI b0 c0;go_upto_region 3 with (fail)
  have f0:=Z07 d11
  have g0:=Z07 d12
  refine Z08 (by kernel_rfl) (by kernel_rfl) ?_
  repeat (go_big_quiet_step (fail))
  refine wpQuiet_nil ?_
  intro w2 d0
  have e0:=hd_ (a0.out.trans ((Z0e d0).mono a0.out.size))
  clear d0 f0 g0;go_wp2
  exact bodyPost_ret (v:=.tuple #[.int .i64 s.last, .int .i64 s.mem, .bool true]) (by simp [results,Tryz.results28,go_sem]) rfl ⟨rfl,e0.out⟩
theorem ndTold (h:NdO own K w a s out) (hB:s.td.length≤1000000000):Calls Tryz.prog 32 #[Z09 a.b] w fun r w'=>∃ v',r=.returned v'∧ownG Z0k w' w.heap.size 136 v' s.td∧Below w.heap.size w w':=by
 have c14:w.cell? ⟨a.b,14,none⟩=some (Z09 a.r):=h.c 14
 have hl:=h.lt
 have hT:=hd_ (Z8j a.r s.td _ w h.r.rq hB)
 clear h
 go_enter Tryz.func32,Tryz.ntmps32
 go_wp2_with fail
 refine hT.out.mono ?_
 rintro r w1 ⟨v',rfl,ho,hb⟩;replace ho:=hd_ ho;replace hb:=hd_ hb;go_wp2
 go_ret
 exact⟨_,rfl,ho.out,hb.out⟩
theorem ndLog (h:NdO own K w a s out) (hB:s.L.length≤1000000):Calls Tryz.prog 30 #[Z09 a.b] w fun r w'=>∃ v',r=.returned v'∧ownE w' w.heap.size 134 v' s.L∧Below w.heap.size w w':=by
 have c9:w.cell? ⟨a.b,9,none⟩=some (Z09 a.l):=h.c 9
 have hl:=h.lt
 have hT:=Z19 a.l s.L 0 w h.r.lg.rd hB
 rw [Z9f] at hT
 replace hT:=hd_ hT;clear h
 go_enter Tryz.func30,Tryz.ntmps30
 go_wp2_with fail
 refine hT.out.mono ?_
 rintro r w1 ⟨v',rfl,ho,hb⟩;replace ho:=hd_ ho;replace hb:=hd_ hb;go_wp2
 go_ret
 exact⟨_,rfl,ho.out,hb.out⟩
end
end
end Go.Proofs.YtbonjbokofkafaaGreat
