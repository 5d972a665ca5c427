/- Lemmas of the proof: PkH. -/
import Derived.Test.YtbonjbokofkafaaGreatPkE
import Derived.Test.YtbonjbokofkafaaGreatPkC
import Derived.Test.YtbonjbokofkafaaGreatPkD
import Derived.Test.YtbonjbokofkafaaGreatPkA
import Derived.Test.YtbonjbokofkafaaGreatPkG
import Derived.Test.YtbonjbokofkafaaGreatPkF
import Derived.Test.YtbonjbokofkafaaGreatPkB
import Derived.BigQuiet
namespace Go.Proofs.YtbonjbokofkafaaGreat
set_option linter.unusedVariables false
set_option maxRecDepth 100000
set_option maxHeartbeats 64000000
section
open Go.RowKit
structure Pf where
 num:Int
 asked:List (Int × Int)
 has:Bool
 bn:Int
 bc:Int
 com:Int
def Pf.fresh (base:Int):Pf:=⟨base,[],false,0,0,0⟩
def Z56 {α:Type} (l:List α):List α:=l.drop (l.length-64)
def Pf.ask (p:Pf) (clock:Int):Pf:={ p with num:=p.num+1,asked:=Z56 (p.asked++[(p.num+1,clock)]) }
def Pf.get (p:Pf) (num com:Int):Pf:=
 if p.has&&decide (num≤p.bn) then p else
  match p.asked.find? (fun q=>q.1==num) with
  | some q=>{ p with has:=true,bn:=q.1,bc:=q.2,com:=com }
  | none=>p
def Pf.left (p:Pf) (clock com:Int):Int:=
 if !p.has||decide (com<p.com)||decide (clock<p.bc) then 0 else if 12≤clock-p.bc then 0 else 12-(clock-p.bc)
def Pf.good (p:Pf) (clock com:Int):Bool:=decide (0<p.left clock com)
def Pf.drop (p:Pf):Pf:=⟨p.num,[],false,0,0,0⟩
abbrev Td:=List (Int × Ent)
def Z1r (td:Td) (e:Ent):Bool:=td.any fun t=>Z35 t.2 e
def Z6m (a t m:Bool) (e:Ent) (pos com now:Int):Bool:=
 if e.lev != 0&&decide (com<pos) then false
 else if e.lev==2 && !a then false
 else if e.ord==1 then t
 else if e.ord==2 then m&&decide (e.stamp<now)&&decide (3≤now-e.stamp)
 else true
def Z78 (com now:Int):List Ent→Int→Bool→Bool→Bool→Td→Td
 | [],_,_,_,_,td=>td
 | e :: l,i,a,t,m,td=>
   let td':=if !Z1r td e&&Z6m a t m e i com now then td++[(i,e)] else td
   let h:=Z1r td' e
   Z78 com now l (i+1) (a&&h) (t&&(h||e.ord != 1)) (m&&(h||e.ord != 2)) td'
def Zid (td:Td) (l:List Ent) (com now:Int):Td:=Z78 (min (max com 0) (l.take 60).length) now (l.take 60) 1 true true true td
def doE (tb:Tb) (e:Ent):Tb:=if (Z2z e.data).2.2&&Z2l e then doT tb (Z2z e.data).1 (Z2z e.data).2.1 else tb
def Z3j (tb:Tb) (l:Td):Tb:=l.foldl (fun tb t=>if t.2.ord==1&&t.2.lev != 0 then doE tb t.2 else tb) tb
structure Qd where
 n:Int
 mem:Int
 me:Int
 H:List Int
 P:List Int
 last:Int
def Qd.fresh (n mem me:Int):Option Qd:=if Z2x mem n&&Z18 mem.toNat me then some ⟨n,mem,me,[0,0,0,0,0,0,0,0],[0,0,0,0,0,0,0,0],0⟩ else none
def Qd.okAck (q:Qd) (id hv:Int):Bool:=Z18 q.mem.toNat id&&decide (0≤hv)&&decide (hv≤60)
def Qd.ack (q:Qd) (id hv pr:Int):Qd:=
 if q.okAck id hv then { q with H:=q.H.set id.toNat (max (q.H.getD id.toNat 0) hv),P:=if pr≤q.last then q.P.set id.toNat (max (q.P.getD id.toNat 0) pr) else q.P } else q
def insI (x:Int):List Int→List Int
 | []=>[x]
 | y :: l=>if x≤y then x :: y :: l else y :: insI x l
def Zag:List Int→List Int
 | []=>[]
 | x :: l=>insI x (Zag l)
def medQ (H:List Int) (n:Int):Int:=(Zag ((H.drop 1).take n.toNat)).getD ((n.toNat-1) / 2) 0
def Qd.next (q:Qd):Qd:={ q with P:=q.P.set q.me.toNat (q.last+1),last:=q.last+1 }
def Qd.have_ (q:Qd) (id:Int):Int:=if Z18 q.mem.toNat id then q.H.getD id.toNat 0 else 0
def mkV (l:List Vt):List VtS:=l.map fun v=>⟨v, .slice none 0 0⟩
def Zbx (view n:Int) (l:List Vt) (x:Vt):List Vt:=if okV view n (mkV l) x then l++[x] else l
def Z57 (l:List Vt):Vt:=
 match l with
 | []=>⟨0,0,[],0⟩
 | x :: _=>let b:=(Z1k ⟨x, .slice none 0 0⟩ (mkV l)).v;{ b with com:=min (Z52 (mkV l)) b.lg.length }
structure Nd where
 id:Int
 n:Int
 boot:Int
 clock:Int
 heard:Int
 knows:Bool
 L:List Ent
 com:Int
 last:Int
 mem:Int
 pend:List Ent
 pseq:Int
 td:Td
 tb:Tb
 pf:Pf
 v:Option (Int × List Vt)
 denied:Int
 again:Bool
 mine:Bool
 q:Option Qd
 start:Int
 acked:Int
 ears:List Int
 asked:List (Int × Int × Int)
 boots:List Int
 jp:Int
 dv:Int
abbrev Z3c:List Int:=[0,0,0,0,0,0,0,0]
def Nd.make (id n boot dv:Int):Nd:=
 ⟨id,n,boot,0,0,boot==1,[],0,0,0,[],0,[],[], .fresh (boot*1048576),none,0,false,false,none,0,0,Z3c,[],Z3c,dv,dv⟩
def Nd.in_ (s:Nd):Bool:=s.knows&&decide (0<s.last)&&s.last==s.dv&&Z18 s.mem.toNat s.id
def Nd.decides (s:Nd):Bool:=s.in_&&s.mine
def Nd.late (s:Nd):Bool:=decide (8+2*s.id≤s.clock-s.heard)
def Nd.others (s:Nd) (t:Int):List Int:=(Z33 t.toNat).filter fun k=>k != s.id&&decide (k≤s.n)
def Nd.all (s:Nd):Int:=2 ^ s.n.toNat-1
def Nd.ms (s:Nd) (kind too:Int):Ms:=⟨kind,s.id,too,s.boot,0,0,0,0,[],0,0,0,false⟩
def Nd.settle (s:Nd):Nd:=
 let td:=Zid s.td s.L s.com s.clock
 { s with pend:=s.pend.filter (fun e => !((s.L.take (min s.com s.L.length).toNat).any fun x=>Z35 x e)),td:=td,tb:=Z3j s.tb (td.drop s.td.length) }
def upV (id n:Int):Nat→Int→Int
 | 0,u=>u
 | f+1,u=>if Z1y u n=id then u else upV id n f (u+1)
def Nd.nextV (s:Nd):Int:=upV s.id s.n 7 (max s.dv s.denied+1)
def Nd.proposes (s:Nd):Nd:=
 let u:=s.nextV
 { s with dv:=u,v:=some (u,Zbx u s.n [] ⟨s.id,s.last,s.L,s.com⟩),heard:=s.clock,again:=false,pf:=s.pf.drop }
def Nd.propose (s:Nd):Nd × List Ms:=
 let u:=s.nextV
 if u≤s.dv∨1099511627776<u then (s,[]) else (s.proposes,(s.others s.all).map fun k=>{ s.ms 1 k with view:=u })
def Nd.whole (s:Nd) (k:Int):Ms:={ s.ms 4 k with view:=s.last,mem:=s.mem,ents:=s.L,com:=s.com }
def Nd.installs (s:Nd) (view:Int) (l:List Vt):Nd:=
 let b:=Z57 l
 let L:=Z2y b.lg
 let mem:Int:=(Z0v (mkV l):Nat)
 { s with L:=L,com:=min (max s.com b.com) L.length,last:=view,mem:=mem,mine:=true,q:=(Qd.fresh s.n mem s.id).map fun q=>q.ack s.id L.length 0,
          start:=L.length,acked:=0,asked:=[],v:=none,ears:=List.replicate 8 s.clock,heard:=s.clock }
def Nd.install (s:Nd) (view:Int) (l:List Vt):Nd × List Ms:=
 let s':=s.installs view l
 (s',(s'.others s'.mem).map s'.whole)
def Nd.gather (s:Nd) (view:Int) (l:List Vt):Nd × List Ms:=
 if Z2x (Z0v (mkV l):Nat) s.n then s.install view l
 else if s.again||s.late then s.propose
 else (s,((s.others s.all).filter fun k => !Z18 (Z0v (mkV l)) k).map fun k=>{ s.ms 1 k with view:=view })
def Z40 (l:List Ent) (c:Int):Int:=match l.getLast? with | some x=>max c x.stamp | none=>c
def Nd.add (s:Nd) (e:Ent):Nd:=
 let e':={ e with stamp:=Z40 s.L s.clock }
 if Z3a s.L e' then { s with L:=s.L++[e'],q:=s.q.map fun q=>q.ack s.id (s.L.length+1) 0 } else s
def Nd.decide_ (s0:Nd):Nd × List Ms:=
 let s:=s0.pend.foldl Nd.add s0
 if (s.others s.mem).any fun k=>decide (14≤s.clock-s.ears.getD k.toNat 0) then s.propose
 else
  let probe:=match s.q with | some q=>q.last+1 | none=>0
  let s':={ s with q:=s.q.map Qd.next,pf:=s.pf.ask s.clock,asked:=s.asked++[(s.id,s.pf.num+1,probe)] }
  (s',(s'.others s'.mem).map fun k=>
   if Z18 s'.acked.toNat k then
    let pos:=match s'.q with | some q=>q.have_ k | none=>0
    { s'.ms 5 k with view:=s'.last,pos:=pos,ents:=s'.L.drop pos.toNat,com:=s'.com,num:=probe,clock:=s'.clock }
   else s'.whole k)
def Nd.ask (s:Nd):Nd × List Ms:=
 let k:=Z1y s.last s.n
 ({ s with pf:=s.pf.ask s.clock },{ s.ms 8 k with view:=s.last,num:=s.pf.num+1 } :: if s.pend.isEmpty then [] else [{ s.ms 7 k with ents:=s.pend }])
def Nd.joins (s:Nd):List Ms:=((List.range s.n.toNat).filterMap fun (i:Nat)=>if ((i+1:Nat):Int)=s.id then none else some { s.ms 10 ((i+1:Nat):Int) with num:=s.boot })
def Nd.tick0 (s:Nd):Nd × List Ms:=
 if !s.knows then (s,s.joins)
 else
  let rest:=fun (_:Unit)=>if s.decides then s.decide_ else if s.late then s.propose else if s.in_ then s.ask else (s,[])
  match s.v with
  | some (view,l)=>if view==s.dv then s.gather view l else rest ()
  | none=>rest ()
def Nd.tick (s:Nd):Nd × List Ms:=
 let r:={ s with clock:=s.clock+1 }.tick0
 (r.1.settle,r.2)
def Nd.ackM (s:Nd) (k num:Int):Ms:={ s.ms 6 k with view:=s.last,pos:=s.L.length,num:=num }
def Nd.take (s:Nd) (m:Ms):Nd:=
 let L:=Z2y m.ents
 { s with dv:=if s.dv<m.view∧m.view≤1099511627776 then m.view else s.dv,last:=m.view,mem:=m.mem,L:=L,com:=min (max s.com m.com) L.length,heard:=s.clock }
def Zie (s:Nd) (m:Ms):Bool:=
 m.kind==11&&m.too==s.id&&m.yes&&m.num==s.boot&&decide (max s.jp 1≤m.view)&&m.frm==Z1y m.view s.n&&Z2x m.mem s.n&&Z18 m.mem.toNat m.frm &&
  decide ((Z2y m.ents).length=m.ents.length)&&decide (m.com≤m.ents.length)
def Nd.state (s:Nd) (m:Ms):Nd × List Ms:=
 if !Zie s m then (s,[])
 else
  let s':={ s.take m with knows:=true }
  (s',if Z18 s'.mem.toNat s'.id then [s'.ackM m.frm 0] else [])
def Nd.voteM (s:Nd) (m:Ms):Ms:={ s.ms 3 m.frm with view:=m.view,last:=s.last,ents:=s.L,com:=s.com }
def Nd.proposed (s:Nd) (m:Ms):Nd × List Ms:=
 if m.frm != Z1y m.view s.n then (s,[])
 else if s.dv<m.view then
  if 1099511627776<m.view then (s,[])
  else
   let s':={ s with dv:=m.view,v:=none,again:=false,heard:=s.clock,pf:=s.pf.drop }
   (s',[s'.voteM m])
 else if m.view<s.dv∨m.view≤s.last then (s,[{ s.ms 2 m.frm with view:=s.dv }])
 else (s,[s.voteM m])
def Nd.right (s:Nd) (m:Ms):Bool:=
 m.frm==Z1y m.view s.n&&Z2x m.mem s.n&&Z18 m.mem.toNat m.frm&&Z18 m.mem.toNat s.id&&decide ((Z2y m.ents).length=m.ents.length)&&decide (m.com≤m.ents.length)
def Nd.installed (s:Nd) (m:Ms):Nd × List Ms:=
 if !s.right m then (s,[])
 else if s.dv≤m.view∧s.last<m.view then
  let s':={ s.take m with v:=none,mine:=false,pf:=s.pf.drop }
  (s',[s'.ackM m.frm 0])
 else if m.view=s.last∧m.view=s.dv then
  let s':={ s with heard:=s.clock }
  (s',[s'.ackM m.frm 0])
 else (s,[])
def Nd.append (s:Nd) (m:Ms):Nd × List Ms:=
 if !s.in_||m.view != s.last||m.frm != Z1y s.last s.n then (s,[])
 else
  let s':=match Z6p s.L m.pos m.ents with
   | some L=>{ s with L:=L,com:=max s.com (min m.com L.length) }
   | none=>s
  let s':={ s' with heard:=s.clock }
  (s',[s'.ackM m.frm m.num])
def hasStep (probe:Int) (r:Nd × List (Int × Int × Int) × List Ms) (q:Int × Int × Int):Nd × List (Int × Int × Int) × List Ms:=
 let (s,rest,out):=r
 if probe<q.2.2 then (s,rest++[q],out)
 else if q.1==s.id then ({ s with pf:=s.pf.get q.2.1 s.com },rest,out)
 else (s,rest,out++[{ s.ms 9 q.1 with view:=s.last,num:=q.2.1,com:=s.com }])
def Nd.hasM (s:Nd) (m:Ms):Nd × List Ms:=
 match s.q with
 | none=>(s,[])
 | some q=>
   if !q.okAck m.frm m.pos then (s,[])
   else
    let q':=q.ack m.frm m.pos m.num
    let s':={ s with q:=some q',acked:=(Z37 s.acked.toNat m.frm:Nat),ears:=s.ears.set m.frm.toNat s.clock,com:=max s.com (min (medQ q'.H q'.n) s.L.length) }
    if s'.com<s'.start then (s',[])
    else
     let r:=s'.asked.foldl (hasStep (medQ q'.P q'.n)) (s',[],[])
     ({ r.1 with asked:=r.2.1 },r.2.2)
def Nd.serve (s:Nd) (m:Ms):Nd × List Ms:=
 if m.kind==6 then (if m.view==s.last then s.hasM m else (s,[]))
 else if m.kind==7 then (m.ents.foldl (fun s e=>if e.frm==m.frm then s.add e else s) s,[])
 else if m.kind==10 then (s,[{ s.ms 11 m.frm with num:=m.num,view:=s.last,mem:=s.mem,ents:=s.L,com:=s.com,yes:=true }])
 else if m.kind==8 then
  (if m.view==s.last&&Z18 s.mem.toNat m.frm&&decide (s.asked.length<64) then { s with asked:=s.asked++[(m.frm,m.num,(match s.q with | some q=>q.last | none=>0)+1)] } else s,[])
 else (s,[])
def Nd.hears (s:Nd) (m:Ms):Nd × List Ms:=
 if m.kind==1 then s.proposed m
 else if m.kind==2 then (if s.v.isSome&&decide (s.dv<m.view) then { s with denied:=max s.denied m.view,again:=true } else s,[])
 else if m.kind==3 then
  (match s.v with
  | some (view,l)=>if m.view==view&&m.view==s.dv then { s with v:=some (view,Zbx view s.n l ⟨m.frm,m.last,m.ents,m.com⟩) } else s
  | none=>s,[])
 else if m.kind==4 then s.installed m
 else if m.kind==5 then s.append m
 else if m.kind==9 then (if s.in_&&m.view==s.last&&m.frm==Z1y s.last s.n then { s with pf:=s.pf.get m.num m.com } else s,[])
 else if s.decides then s.serve m else (s,[])
def Nd.hear (s:Nd) (m:Ms):Nd × List Ms:=
 if m.too != s.id||decide (m.boot<s.boots.getD m.frm.toNat 0) then (s,[])
 else
  let s:={ s with boots:=s.boots.set m.frm.toNat m.boot }
  let r:=if m.kind==12 then (s,[{ s.ms 13 m.frm with num:=m.num,clock:=s.clock }]) else if !s.knows then s.state m else s.hears m
  (r.1.settle,r.2)
end
section
open Go.RowKit
structure Shp (α:Type) where
 size:Nat
 cells:α→List Value
 len:∀ x,(cells x).length=size
 pos:0<size
 one:∀ x u,u ∈ cells x→u.oneCell'=true
section
variable {α:Type} (S:Shp α)
def Z1h (l:List α):List Value:=l.flatMap S.cells
theorem Z2u (l:List α):(Z1h S l).length=l.length*S.size:=by
 induction l with
 | nil=>simp [Z1h]
 | cons x l ih=>unfold Z1h at ih ⊢;rw [List.flatMap_cons,List.length_append,ih,S.len,List.length_cons,Nat.add_mul,Nat.one_mul];omega
theorem Z3d (l:List α) (j:Nat) (h:j<l.length) (c:Nat) (hc:c<S.size):(Z1h S l)[j*S.size+c]?=(S.cells l[j])[c]?:=by
 induction l generalizing j with
 | nil=>simp at h
 | cons x l ih=>
   unfold Z1h at ih ⊢
   rw [List.flatMap_cons]
   cases j with
   | zero=>rw [Nat.zero_mul,Nat.zero_add,List.getElem?_append_left (by rw [S.len];exact hc)];rfl
   | succ j=>
     rw [List.getElem?_append_right (by rw [S.len,Nat.add_mul];omega),show (j+1)*S.size+c-(S.cells x).length=j*S.size+c by rw [S.len,Nat.add_mul];omega,ih j (by simpa using h)]
     rfl
theorem Z1u (l:List α) (x:α):Z1h S (l++[x])=Z1h S l++S.cells x:=by
 unfold Z1h;rw [List.flatMap_append];simp
theorem Zah (l:List α):∀ u ∈ Z1h S l,u.oneCell'=true:=by
 intro u hu
 unfold Z1h at hu
 obtain⟨x,_,hx⟩:=List.mem_flatMap.1 hu
 exact S.one x u hx
def atG (w:World) (b o:Nat) (x:α):Prop:=∀ c u,(S.cells x)[c]?=some u→w.cell? ⟨b,o+c,none⟩=some u
theorem atG.lt {w:World} {b o:Nat} {x:α} (h:atG S w b o x):b<w.heap.size:=by
 have hp:=S.pos
 have hl:=S.len x
 obtain⟨u,hu⟩:∃ u,(S.cells x)[0]?=some u:=⟨_,List.getElem?_eq_getElem (by omega)⟩
 exact Z0f (h 0 u hu)
theorem atG.same {w w':World} {b o:Nat} {x:α} (h:atG S w b o x) (hb:w'.heap[b]?=w.heap[b]?):atG S w' b o x:=fun c u hu=>by
 rw [← h c u hu]
 exact World.cell?_of_block (w:=w) (a:=⟨b,o+c,none⟩) hb
theorem atG.grow (w w':World) (b o:Nat) (x:α) (h:atG S w b o x) (hb:Below w.heap.size w w'):atG S w' b o x:=h.same S (hb.block b (h.lt S))
def ownG (w:World) (base:Nat) (T:TypeId) (v:Value) (l:List α):Prop:=w.ownsRow base T S.size v l.length (Z1h S l)
theorem Z12 (w:World) (base:Nat) (T:TypeId):ownG S w base T (.slice none 0 0) []:=World.ownsRow_nil _ _ _ _
theorem ownG.rd {w:World} {base:Nat} {T:TypeId} {v:Value} {l:List α} (h:ownG S w base T v l):rdS S.size (atG S) w v l:=by
 obtain⟨hl,⟨rfl,h0⟩ | ⟨g,c0,b0,rfl,hb,hg,hn,hc,hs,ht⟩⟩:=h
 ·exact⟨none,0,by rw [h0],by rw [h0];exact Nat.zero_le _,Nat.zero_le _,fun h=>by omega⟩
 ·refine⟨some ⟨g,0,none⟩,c0,rfl,hn,hc,fun _=>⟨g,0,rfl,fun j hj c u hu=>?_⟩⟩
  have a0:c<S.size:=by
   rw [← S.len l[j]]
   exact (List.getElem?_eq_some_iff.1 hu).1
  have h1:(b0.toList.take (l.length*S.size))[j*S.size+c]?=some u:=by rw [ht,Z3d S l j hj c a0];exact hu
  rw [List.getElem?_take] at h1
  rw [Nat.zero_add]
  split at h1
  ·simp [World.cell?,hg] at h1 ⊢
   simpa using h1
  ·cases h1
theorem ownG.lt {w:World} {base:Nat} {T:TypeId} {v:Value} {l:List α} (h:ownG S w base T v l):∀ k,v.ownBlock=some k→base≤k∧k<w.heap.size:=World.ownsRow.lt h
theorem ownG.same {w w':World} {base:Nat} {T:TypeId} {v:Value} {l:List α} (h:ownG S w base T v l) (hb:∀ k,v.ownBlock=some k→w'.heap[k]?=w.heap[k]?):ownG S w' base T v l:=by
 obtain⟨h1,h2⟩:=h
 refine⟨h1,h2.imp id ?_⟩
 rintro⟨g,cap,cur,rfl,e2,e3,e4,e5,e6,e7⟩
 exact⟨g,cap,cur,rfl,e2,by rw [hb g rfl];exact e3,e4,e5,e6,e7⟩
theorem ownG.grow {w w':World} {base:Nat} {T:TypeId} {v:Value} {l:List α} (h:ownG S w base T v l) (hb:Below w.heap.size w w'):ownG S w' base T v l:=
 h.same S fun k hk=>hb.block k (h.lt S k hk).2
theorem ownG.chg {w w':World} {F:Nat→Prop} {base:Nat} {T:TypeId} {v:Value} {l:List α} (h:ownG S w base T v l) (hc:Chg F w w') (hn:∀ k,v.ownBlock=some k→¬ F k):ownG S w' base T v l:=
 h.same S fun k hk=>hc.block k (h.lt S k hk).2 (hn k hk)
theorem rdG.same {w w':World} {v:Value} {l:List α} (h:rdS S.size (atG S) w v l) (hb:∀ k,v.ownBlock=some k→k<w.heap.size→w'.heap[k]?=w.heap[k]?):rdS S.size (atG S) w' v l:=by
 obtain⟨a,cap,rfl,hm,hM,ha⟩:=h
 refine⟨a,cap,rfl,hm,hM,fun h0=>?_⟩
 obtain⟨b,off,rfl,hc⟩:=ha h0
 exact⟨b,off,rfl,fun j hj=>(hc j hj).same S (hb b rfl ((hc j hj).lt S))⟩
end
end
section
open Go.RowKit
abbrev Is (own:Nat→Nat) (j:Nat):Nat→Prop:=fun c=>own c=j
def Z5q (own:Nat→Nat) (n n' j:Nat):Nat→Nat:=fun c=>if c<n then own c else if c<n' then j else 0
structure Turn (J:Nat→Prop) (own own':Nat→Nat) (w w':World):Prop where
 chg:Chg (fun c=>J (own c)) w w'
 old:∀ c,c<w.heap.size→own' c=own c
 new:∀ c,w'.heap.size≤c→own' c=0
theorem Turn.is {J:Nat→Prop} {own own':Nat→Nat} {w w':World} (t:Turn J own own' w w') (wf:∀ c,w.heap.size≤c→own c=0) {i:Nat} (h0:i≠0):∀ k,Is own i k→Is own' i k:=fun k hk=>by
 rcases Nat.lt_or_ge k w.heap.size with h | h
 ·exact (t.old k h).trans hk
 ·exact absurd ((wf k h).symm.trans hk) (Ne.symm h0)
theorem Turn.no {J:Nat→Prop} {own:Nat→Nat} {i:Nat} (hi:¬ J i):∀ k,Is own i k→¬ J (own k):=fun k hk h=>hi (by rw [show own k=i from hk] at h;exact h)
theorem Z3k {own:Nat→Nat} {n n' j c:Nat} (h:c<n):Z5q own n n' j c=own c:=by unfold Z5q;rw [if_pos h]
theorem Z20 {own:Nat→Nat} {n n' j c:Nat} (h:¬ c<n) (h':c<n'):Z5q own n n' j c=j:=by unfold Z5q;rw [if_neg h,if_pos h']
theorem Zcd {own:Nat→Nat} {n n' j c:Nat} (hn:n≤n') (h:n'≤c):Z5q own n n' j c=0:=by unfold Z5q;rw [if_neg (by omega),if_neg (by omega)]
theorem Turn.ext {own:Nat→Nat} {w w':World} {j:Nat} (h:Chg (Is own j) w w'):Turn (fun o=>o=j) own (Z5q own w.heap.size w'.heap.size j) w w':=
 ⟨h,fun c hc=>Z3k hc,fun c hc=>Zcd h.size hc⟩
theorem Turn.same {J:Nat→Prop} {own:Nat→Nat} {w w':World} (h:Chg (fun c=>J (own c)) w w') (wf:∀ c,w.heap.size≤c→own c=0):Turn J own own w w':=
 ⟨h,fun c hc=>rfl,fun c hc=>wf c (Nat.le_trans h.size hc)⟩
theorem Z98 {F:Nat→Prop} {w w':World} {g o:Nat} {u:Value} (h:Chg F w w') (hg:w.heap.size≤g):Chg F w (w'.setCell ⟨g,o,none⟩ u):=
 h.more (G:=fun k=>k=g) (Z06 (Chg.refl _ _) rfl) fun i e=>.inr (by rw [show i=g from e];exact hg)
theorem Z1a {F:Nat→Prop} {w w':World} {o:Obj} (h:Chg F w w'):Chg F w (w'.alloc o):=h.on ((Below.refl _ _).alloc (Nat.le_refl _) _)
theorem Z10 {F:Nat→Prop} {w w' w2:World} {row:Option Nat} (h:Chg F w w') (hg:w'.grownBy w2 row) (hF:∀ k,row=some k→F k∨w.heap.size≤k):Chg F w w2:=
 h.more (G:=fun k=>row=some k) ⟨hg.os,hg.tape,hg.output,hg.size,fun k hk hF=>hg.block k hk (fun e=>hF e.symm)⟩ hF
theorem Turn.mono {J J':Nat→Prop} {own own':Nat→Nat} {w w':World} (t:Turn J own own' w w') (h:∀ o,J o→J' o):Turn J' own own' w w':=⟨t.chg.mono fun k _ hk=>h _ hk,t.old,t.new⟩
theorem Turn.extJ {J:Nat→Prop} {own:Nat→Nat} {w w':World} (j:Nat) (h:Chg (fun c=>J (own c)) w w'):Turn J own (Z5q own w.heap.size w'.heap.size j) w w':=
 ⟨h,fun c hc=>Z3k hc,fun c hc=>Zcd h.size hc⟩
theorem Turn.trans {J:Nat→Prop} {own own1 own2:Nat→Nat} {w w1 w2:World} (t:Turn J own own1 w w1) (t2:Turn J own1 own2 w1 w2):Turn J own own2 w w2:=
 ⟨t.chg.more t2.chg fun i hi=>(by
   rcases Nat.lt_or_ge i w.heap.size with h | h
   ·exact .inl (by rw [← t.old i h];exact hi)
   ·exact .inr h),fun c hc=>(t2.old c (Nat.lt_of_lt_of_le hc t.chg.size)).trans (t.old c hc),t2.new⟩
def Z0k:Shp (Int × Ent):=⟨8,fun t=>.int .i64 t.1 :: t.2.cells,fun _=>rfl,by decide,fun x u hu=>by
 simp only [Ent.cells,List.mem_cons,List.not_mem_nil,or_false] at hu
 rcases hu with rfl | rfl | rfl | rfl | rfl | rfl | rfl | rfl<;>rfl⟩
def Z99:Shp (Int × Int):=⟨2,fun q=>[.int .i64 q.1, .int .i64 q.2],fun _=>rfl,by decide,fun x u hu=>by
 simp only [List.mem_cons,List.not_mem_nil,or_false] at hu
 rcases hu with rfl | rfl<;>rfl⟩
def Z1i:Shp (Int × Int × Int):=⟨3,fun q=>[.int .i64 q.1, .int .i64 q.2.1, .int .i64 q.2.2],fun _=>rfl,by decide,fun x u hu=>by
 simp only [List.mem_cons,List.not_mem_nil,or_false] at hu
 rcases hu with rfl | rfl | rfl<;>rfl⟩
structure MsS where
 m:Ms
 a:Option Addr
 c:Nat
abbrev MsS.s (x:MsS):Value:=.slice x.a x.m.ents.length x.c
def Z23:Shp MsS:=⟨13,fun x=>Z94 x.m x.s,fun _=>rfl,by decide,fun x u hu=>by
 simp only [Z94,List.mem_cons,List.not_mem_nil,or_false] at hu
 rcases hu with rfl | rfl | rfl | rfl | rfl | rfl | rfl | rfl | rfl | rfl | rfl | rfl | rfl<;>rfl⟩
theorem rdE.kept {w w':World} {v:Value} {l:List Ent} (h:rdE w v l) (hb:0<l.length→∀ k,v.ownBlock=some k→k<w.heap.size→w'.heap[k]?=w.heap[k]?):rdE w' v l:=by
 obtain⟨a,b0,rfl,hm,hM,ha⟩:=h
 refine⟨a,b0,rfl,hm,hM,fun h0=>?_⟩
 obtain⟨b,off,rfl,a0⟩:=ha h0
 refine⟨b,off,rfl,fun j hj=>?_⟩
 have c0:=(a0 j hj).lt
 have k:∀ o,w'.cell? ⟨b,o,none⟩=w.cell? ⟨b,o,none⟩:=fun o=>World.cell?_of_block (w:=w) (a:=⟨b,o,none⟩) (hb h0 b rfl c0)
 have:=a0 j hj
 unfold cellsE at this ⊢
 simp only [k];exact this
def gC (me:Int) (boots:List Int):Array Value:=
 (.int .i64 me :: (boots.map (Value.int .i64)++[.int .i64 0, .int .i64 0, .bool false, .int .i64 0, .int .i64 0, .bool false, .int .i64 0, .int .i64 0, .bool false, .int .i64 0, .int .i64 0, .bool false, .int .i64 0, .int .i64 0, .bool false, .int .i64 0, .int .i64 0, .bool false, .int .i64 0, .int .i64 0, .bool false, .int .i64 0, .int .i64 0, .bool false])).toArray
def gmO (w:World) (b:Nat) (me:Int) (boots:List Int):Prop:=w.heap[b]?=some (.cells (gC me boots) 201 (0,0))∧boots.length=8
def pnO (w:World) (F:Nat→Prop) (b:Nat) (frm boot seq:Int) (l:List Ent):Prop:=
 F b∧∃ v,w.heap[b]?=some (.cells #[.int .i64 frm, .int .i64 boot, .int .i64 seq,v] 196 (0,0))∧ownE w 0 134 v l∧∀ k,v.ownBlock=some k→F k
def rqO (w:World) (F:Nat→Prop) (b:Nat) (td:Td):Prop:=
 F b∧∃ v,w.heap[b]?=some (.cells #[v] 194 (0,0))∧ownG Z0k w 0 136 v td∧∀ k,v.ownBlock=some k→F k
def rowO {α:Type} (S:Shp α) (w:World) (T:TypeId) (v:Value) (l:List α):Prop:=
 (v=.slice none 0 0∧l=[])∨∃ g off cap cur,v=.slice (some ⟨g,off,none⟩) l.length cap∧w.heap[g]?=some (.cells cur T (0,0))∧l.length≤cap∧cap≤maxLen∧cur.size=off+cap*S.size∧∀ j (h:j<l.length),atG S w g (off+j*S.size) l[j]
theorem rowO.lt {α:Type} {S:Shp α} {w:World} {T:TypeId} {v:Value} {l:List α} (h:rowO S w T v l):∀ k,v.ownBlock=some k→k<w.heap.size:=by
 rintro k hk
 rcases h with ⟨rfl,_⟩ | ⟨g,off,cap,cur,rfl,hg,_⟩
 ·cases hk
 ·cases hk;exact Z04 hg
theorem rowO.same {α:Type} {S:Shp α} {w w':World} {T:TypeId} {v:Value} {l:List α} (h:rowO S w T v l) (hb:∀ k,v.ownBlock=some k→k<w.heap.size→w'.heap[k]?=w.heap[k]?):rowO S w' T v l:=by
 rcases h with ⟨rfl,e⟩ | ⟨g,off,cap,cur,rfl,hg,h1,h2,h3,h4⟩
 ·exact .inl ⟨rfl,e⟩
 ·have e:=hb g rfl (Z04 hg)
  exact .inr ⟨g,off,cap,cur,rfl,e.trans hg,h1,h2,h3,fun j hj=>(h4 j hj).same S e⟩
theorem rowO.rd {α:Type} {S:Shp α} {w:World} {T:TypeId} {v:Value} {l:List α} (h:rowO S w T v l):rdS S.size (atG S) w v l:=by
 rcases h with ⟨rfl,rfl⟩ | ⟨g,off,cap,cur,rfl,hg,h1,h2,h3,h4⟩
 ·exact⟨none,0,rfl,Nat.le_refl _,Nat.zero_le _,fun h=>absurd h (Nat.lt_irrefl 0)⟩
 ·exact⟨_,cap,rfl,h1,h2,fun _=>⟨g,off,rfl,h4⟩⟩
def pfO (w:World) (F:Nat→Prop) (b:Nat) (p:Pf):Prop:=
 F b∧∃ v,w.heap[b]?=some (.cells #[.int .i64 p.num,v, .bool p.has, .int .i64 p.bn, .int .i64 p.bc, .int .i64 p.com] 207 (0,0))∧(∀ k,v.ownBlock=some k→F k) ∧
   rowO Z99 w 205 v p.asked
section
variable {w w':World} {F G:Nat→Prop}
theorem pnO.lt {b:Nat} {frm boot seq:Int} {l:List Ent} (h:pnO w F b frm boot seq l):b<w.heap.size:=by
 obtain⟨_,v,h,_⟩:=h;exact Z04 h
theorem pnO.chg {b:Nat} {frm boot seq:Int} {l:List Ent} (h:pnO w F b frm boot seq l) (hc:Chg G w w') (hn:∀ k,F k→¬ G k):pnO w' F b frm boot seq l:=by
 obtain⟨h0,v,h1,h2,h3⟩:=h
 exact⟨h0,v,Z0g h1 hc (hn b h0),h2.chg hc fun k hk=>hn k (h3 k hk),h3⟩
theorem pnO.mono {b:Nat} {frm boot seq:Int} {l:List Ent} (h:pnO w F b frm boot seq l) (hF:∀ k,F k→G k):pnO w G b frm boot seq l:=by
 obtain⟨h0,v,h1,h2,h3⟩:=h
 exact⟨hF _ h0,v,h1,h2,fun k hk=>hF k (h3 k hk)⟩
theorem rqO.chg {b:Nat} {td:Td} (h:rqO w F b td) (hc:Chg G w w') (hn:∀ k,F k→¬ G k):rqO w' F b td:=by
 obtain⟨h0,v,h1,h2,h3⟩:=h
 exact⟨h0,v,Z0g h1 hc (hn b h0),h2.chg _ hc fun k hk=>hn k (h3 k hk),h3⟩
theorem rqO.mono {b:Nat} {td:Td} (h:rqO w F b td) (hF:∀ k,F k→G k):rqO w G b td:=by
 obtain⟨h0,v,h1,h2,h3⟩:=h
 exact⟨hF _ h0,v,h1,h2,fun k hk=>hF k (h3 k hk)⟩
theorem pfO.chg {b:Nat} {p:Pf} (h:pfO w F b p) (hc:Chg G w w') (hn:∀ k,F k→¬ G k):pfO w' F b p:=by
 obtain⟨h0,v,h1,h2,h3⟩:=h
 exact⟨h0,v,Z0g h1 hc (hn b h0),h2,h3.same fun k hk hl=>hc.block k hl (hn k (h2 k hk))⟩
theorem pfO.mono {b:Nat} {p:Pf} (h:pfO w F b p) (hF:∀ k,F k→G k):pfO w G b p:=by
 obtain⟨h0,v,h1,h2,h3⟩:=h
 exact⟨hF _ h0,v,h1,fun k hk=>hF k (h2 k hk),h3⟩
theorem gmO.chg {b:Nat} {me:Int} {boots:List Int} (h:gmO w b me boots) (hc:Chg G w w') (hn:¬ G b):gmO w' b me boots:=⟨Z0g h.1 hc hn,h.2⟩
theorem vtO.monoF {T TV:TypeId} {F D G E:Nat→Prop} {b:Nat} {view n:Int} {l:List VtS} (h:vtO T TV w F D b view n l) (hF:∀ k,F k→G k) (hD:∀ k,D k→E k) (hd:∀ k,G k→¬ E k):vtO T TV w G E b view n l:=by
 obtain⟨h1,h2,v,h3,h4,h5,h6⟩:=h
 exact⟨hF _ h1,hd,v,h3,h4,fun k hk=>hF k (h5 k hk),fun x hx=>⟨(h6 x hx).1,fun k hk=>hD k ((h6 x hx).2 k hk)⟩⟩
theorem TbO.chg {q tb:Nat} {L:Tb} (h:TbO w q tb L) (hc:Chg G w w') (hq:¬ G q) (ht:¬ G tb):TbO w' q tb L:=by
 obtain⟨n,es,clock,hb,hF,hs,hD⟩:=h.own
 exact⟨Z0g h.ptr hc hq,⟨n,es,clock,by rw [hc.block tb (Z04 hb) ht];exact hb,hF,hs,hD⟩,h.up,h.small⟩
end
end
section
open Go.RowKit
structure NdAt where
 b:Nat
 dk:Nat
 od:Nat
 cs:Array Value
 T:TypeId
 g:Nat
 j:Nat
 l:Nat
 p:Nat
 r:Nat
 tq:Nat
 tb:Nat
 f:Nat
 v:Option Nat
 qb:Option Nat
 av:Value
 ov:Value
abbrev Z09 (b:Nat):Value:=.pointer (some ⟨b,0,none⟩)
abbrev Z3f (o:Option Nat):Value:=.pointer (o.map fun b=>(⟨b,0,none⟩:Addr))
def ndC (a:NdAt) (s:Nd):Array Value:=
 (.int .i64 s.id :: .int .i64 s.n :: .pointer (some ⟨a.dk,a.od,none⟩) :: .int .i64 s.boot :: .int .i64 s.clock :: .int .i64 s.heard :: Z09 a.g :: Z09 a.j :: .bool s.knows :: Z09 a.l :: .int .i64 s.com :: .int .i64 s.last :: .int .i64 s.mem ::
  Z09 a.p :: Z09 a.r :: Z09 a.tq :: Z09 a.f :: Z3f a.v :: .int .i64 s.denied :: .bool s.again :: .bool s.mine :: Z3f a.qb :: .int .i64 s.start :: .int .i64 s.acked :: (s.ears.map (Value.int .i64)++[a.av,a.ov])).toArray
def vtM (own:Nat→Nat) (K:Nat) (w:World) (n:Int):Option (Int × List Vt)→Option Nat→Prop
 | none,none=>True
 | some (u,l),some vb=>∃ ls:List VtS,l=ls.map VtS.v∧vtO 173 184 w (Is own (K+8)) (Is own (K+9)) vb u n ls
 | _,_=>False
def qmM (own:Nat→Nat) (K:Nat) (w:World):Option Qd→Option Nat→Prop
 | none,none=>True
 | some q,some b=>own b=K+10∧qO w b q.n q.mem q.me q.H q.P q.last
 | _,_=>False
structure NdR (own:Nat→Nat) (K:Nat) (w:World) (a:NdAt) (s:Nd) (out:List MsS):Prop where
 wf:∀ c,w.heap.size≤c→own c=0
 k16:16≤K
 ob:own a.b=K
 odk:own a.dk=1
 dsz:a.od+1<a.cs.size
 dsk:w.heap[a.dk]?=some (.cells (a.cs.setIfInBounds (a.od+1) (.int .i64 s.dv)) a.T (0,0))
 gm:own a.g=K+1∧gmO w a.g s.id s.boots
 jn:s.knows=false→0≤s.jp→own a.j=K+2∧jnO w a.j s.id s.n s.boot s.jp mg0 false
 lg:lgO w (Is own (K+3)) a.l s.L
 pn:pnO w (Is own (K+4)) a.p s.id s.boot s.pseq s.pend
 rq:rqO w (Is own (K+5)) a.r s.td
 tt:own a.tq=K+6∧own a.tb=K+6∧TbO w a.tq a.tb s.tb
 pf:pfO w (Is own (K+7)) a.f s.pf
 vt:vtM own K w s.n s.v a.v
 qm:qmM own K w s.q a.qb
 ask:ownG Z1i w 0 179 a.av s.asked∧∀ k,a.av.ownBlock=some k→own k=K+11
 out:ownG Z23 w 0 37 a.ov out∧(∀ k,a.ov.ownBlock=some k→own k=K+12)∧∀ x ∈ out,rdE w x.s x.m.ents∧(0<x.m.ents.length→∀ k,x.s.ownBlock=some k→own k=0)
structure NdO (own:Nat→Nat) (K:Nat) (w:World) (a:NdAt) (s:Nd) (out:List MsS):Prop where
 blk:w.heap[a.b]?=some (.cells (ndC a s) 115 (0,0))
 ears:s.ears.length=8
 r:NdR own K w a s out
theorem Z6f (a:NdAt) (s:Nd) (h:s.ears.length=8):(ndC a s)[32]?=some a.av:=by
 obtain⟨id,n,bo,cl,he,kn,L,co,la,me,pe,ps,td,tb,pf,v,de,ag,mi,q,st,ac,ears,as_,bs,jp,dv⟩:=s
 match ears,h with
 | [a0,a1,a2,a3,a4,a5,a6,a7],_=>rfl
theorem Zai (a:NdAt) (s:Nd) (h:s.ears.length=8):(ndC a s)[33]?=some a.ov:=by
 obtain⟨id,n,bo,cl,he,kn,L,co,la,me,pe,ps,td,tb,pf,v,de,ag,mi,q,st,ac,ears,as_,bs,jp,dv⟩:=s
 match ears,h with
 | [a0,a1,a2,a3,a4,a5,a6,a7],_=>rfl
theorem Zce (a:NdAt) (s:Nd) (h:s.ears.length=8) (i:Nat) (hi:i<8):(ndC a s)[24+i]?=some (.int .i64 (s.ears.getD i 0)):=by
 obtain⟨id,n,bo,cl,he,kn,L,co,la,me,pe,ps,td,tb,pf,v,de,ag,mi,q,st,ac,ears,as_,bs,jp,dv⟩:=s
 match ears,h with
 | [a0,a1,a2,a3,a4,a5,a6,a7],_=>
   rcases (by omega:i=0∨i=1∨i=2∨i=3∨i=4∨i=5∨i=6∨i=7) with rfl | rfl | rfl | rfl | rfl | rfl | rfl | rfl<;>rfl
theorem Z79 (a:NdAt) (s:Nd) (h:s.ears.length=8) (v:Value):(ndC a s).setIfInBounds 33 v=ndC { a with ov:=v } s:=by
 obtain⟨id,n,bo,cl,he,kn,L,co,la,me,pe,ps,td,tb,pf,v,de,ag,mi,q,st,ac,ears,as_,bs,jp,dv⟩:=s
 match ears,h with
 | [a0,a1,a2,a3,a4,a5,a6,a7],_=>rfl
theorem Z7a (a:NdAt) (s:Nd) (h:s.ears.length=8) (v:Value):(ndC a s).setIfInBounds 32 v=ndC { a with av:=v } s:=by
 obtain⟨id,n,bo,cl,he,kn,L,co,la,me,pe,ps,td,tb,pf,v,de,ag,mi,q,st,ac,ears,as_,bs,jp,dv⟩:=s
 match ears,h with
 | [a0,a1,a2,a3,a4,a5,a6,a7],_=>rfl
theorem Zfo (a:NdAt) (s:Nd) (h:s.ears.length=8) (i:Nat) (hi:i<8) (x:Int):(ndC a s).setIfInBounds (24+i) (.int .i64 x)=ndC a { s with ears:=s.ears.set i x }:=by
 obtain⟨id,n,bo,cl,he,kn,L,co,la,me,pe,ps,td,tb,pf,v,de,ag,mi,q,st,ac,ears,as_,bs,jp,dv⟩:=s
 match ears,h with
 | [a0,a1,a2,a3,a4,a5,a6,a7],_=>
   rcases (by omega:i=0∨i=1∨i=2∨i=3∨i=4∨i=5∨i=6∨i=7) with rfl | rfl | rfl | rfl | rfl | rfl | rfl | rfl<;>rfl
section
variable {own own':Nat→Nat} {K:Nat} {w w':World} {a:NdAt} {s:Nd} {out:List MsS} {J:Nat→Prop}
theorem Z28 (wf:∀ c,w.heap.size≤c→own c=0) (t:Turn J own own' w w') (h8:¬ J (K+8)) (h9:¬ J (K+9)) {sv:Option (Int × List Vt)} {av:Option Nat} {n:Int}
  (h:vtM own K w n sv av):vtM own' K w' n sv av:=by
 match sv,av,h with
 | none,none,_=>trivial
 | some (u,l),some vb,⟨ls,e,hv⟩=>
   exact⟨ls,e,(hv.chg t.chg (Turn.no h8) (Turn.no h9)).monoF (t.is wf (by omega)) (t.is wf (by omega)) (fun k h1 h2=>by have:own' k=K+8:=h1;have:own' k=K+9:=h2;omega)⟩
theorem Z29 (t:Turn J own own' w w') (h10:¬ J (K+10)) {sq:Option Qd} {qb:Option Nat}
  (h:qmM own K w sq qb):qmM own' K w' sq qb:=by
 match sq,qb,h with
 | none,none,_=>trivial
 | some q,some b,⟨h1,h2⟩=>exact⟨(t.old b (Z04 h2.1)).trans h1,Z0g h2.1 t.chg (by rw [h1];exact h10),h2.2⟩
theorem Z1f (t:Turn J own own' w w') (h11:¬ J (K+11)) {av:Value} {l:List (Int × Int × Int)} (h:ownG Z1i w 0 179 av l∧∀ k,av.ownBlock=some k→own k=K+11) :
  ownG Z1i w' 0 179 av l∧∀ k,av.ownBlock=some k→own' k=K+11:=
 ⟨h.1.chg _ t.chg fun k hk=>by show ¬ J (own k);rw [h.2 k hk];exact h11,fun k hk=>(t.old k (h.1.lt _ k hk).2).trans (h.2 k hk)⟩
theorem Z58 (t:Turn J own own' w w') (h0:¬ J 0) {v:Value} {l:List Ent} (h:rdE w v l∧(0<l.length→∀ k,v.ownBlock=some k→own k=0)):rdE w' v l∧(0<l.length→∀ k,v.ownBlock=some k→own' k=0):=by
 refine⟨h.1.kept fun hl k hk a0=>t.chg.block k a0 (by rw [h.2 hl k hk];exact h0),fun hl k hk=>?_⟩
 obtain⟨ad,cap,rfl,_,_,ha⟩:=h.1
 obtain⟨b,off,rfl,hc⟩:=ha hl
 have a0:=(hc 0 hl).lt
 cases hk
 exact (t.old _ a0).trans (h.2 hl _ rfl)
theorem Z1q (t:Turn J own own' w w') (h0:¬ J 0) (h12:¬ J (K+12)) {ov:Value} (h:ownG Z23 w 0 37 ov out∧(∀ k,ov.ownBlock=some k→own k=K+12)∧∀ x ∈ out,rdE w x.s x.m.ents∧(0<x.m.ents.length→∀ k,x.s.ownBlock=some k→own k=0)) :
  ownG Z23 w' 0 37 ov out∧(∀ k,ov.ownBlock=some k→own' k=K+12)∧∀ x ∈ out,rdE w' x.s x.m.ents∧(0<x.m.ents.length→∀ k,x.s.ownBlock=some k→own' k=0):=
 ⟨h.1.chg _ t.chg fun k hk=>by show ¬ J (own k);rw [h.2.1 k hk];exact h12,fun k hk=>(t.old k (h.1.lt _ k hk).2).trans (h.2.1 k hk),fun x hx=>Z58 t h0 (h.2.2 x hx)⟩
theorem at_turn (t:Turn J own own' w w') {c i:Nat} {o:Obj} (h:own c=i∧w.heap[c]?=some o) (hi:¬ J i):own' c=i∧w'.heap[c]?=some o:=
 ⟨(t.old c (Z04 h.2)).trans h.1,Z0g h.2 t.chg (by rw [h.1];exact hi)⟩
theorem Z5r (wf:∀ c,w.heap.size≤c→own c=0) (t:Turn J own own' w w') {i:Nat} (h0:i≠0) (hi:¬ J i) {b:Nat} {L:List Ent} (h:lgO w (Is own i) b L):lgO w' (Is own' i) b L:=(h.chg t.chg (Turn.no hi)).mono (t.is wf h0)
theorem Z5s (wf:∀ c,w.heap.size≤c→own c=0) (t:Turn J own own' w w') {i:Nat} (h0:i≠0) (hi:¬ J i) {b:Nat} {x y z:Int} {L:List Ent} (h:pnO w (Is own i) b x y z L):pnO w' (Is own' i) b x y z L:=(h.chg t.chg (Turn.no hi)).mono (t.is wf h0)
theorem Z5t (wf:∀ c,w.heap.size≤c→own c=0) (t:Turn J own own' w w') {i:Nat} (h0:i≠0) (hi:¬ J i) {b:Nat} {L:Td} (h:rqO w (Is own i) b L):rqO w' (Is own' i) b L:=(h.chg t.chg (Turn.no hi)).mono (t.is wf h0)
theorem Z5u (wf:∀ c,w.heap.size≤c→own c=0) (t:Turn J own own' w w') {i:Nat} (h0:i≠0) (hi:¬ J i) {b:Nat} {p:Pf} (h:pfO w (Is own i) b p):pfO w' (Is own' i) b p:=(h.chg t.chg (Turn.no hi)).mono (t.is wf h0)
theorem Z5v (t:Turn J own own' w w') {i:Nat} (hi:¬ J i) {q tb:Nat} {L:Tb} (h:own q=i∧own tb=i∧TbO w q tb L):own' q=i∧own' tb=i∧TbO w' q tb L:=
 ⟨(t.old _ h.2.2.ltq).trans h.1,(t.old _ h.2.2.ltb).trans h.2.1,h.2.2.chg t.chg (by rw [h.1];exact hi) (by rw [h.2.1];exact hi)⟩
theorem Z5w (t:Turn J own own' w w') {i:Nat} (hi:¬ J i) {b:Nat} {me:Int} {bs:List Int} (h:own b=i∧gmO w b me bs):own' b=i∧gmO w' b me bs:=
 ⟨(t.old _ (Z04 h.2.1)).trans h.1,h.2.chg t.chg (by rw [h.1];exact hi)⟩
theorem Z5x (t:Turn J own own' w w') {i:Nat} (hi:¬ J i) {b:Nat} {me n boot p jp:Int} {m:Mg} {g:Bool} (h:0≤jp→own b=i∧jnO w b me n boot p m g):0≤jp→own' b=i∧jnO w' b me n boot p m g:=
 fun e=>at_turn t (h e) hi
theorem NdR.b_lt (h:NdR own K w a s out):a.b<w.heap.size:=by
 rcases Nat.lt_or_ge a.b w.heap.size with h1 | h1
 ·exact h1
 ·have:=h.wf _ h1;have:=h.ob;have:=h.k16;omega
theorem NdR.turn (h:NdR own K w a s out) (t:Turn J own own' w w') (h0:¬ J 0) (h1:¬ J 1) (hJ:∀ i,J i→i≤K∨K+12<i):NdR own' K w' a s out:=by
 have hk:=h.k16
 have no:∀ i,1≤i→i≤12→¬ J (K+i):=fun i hi hi2 hj=>by have:=hJ _ hj;omega
 exact⟨t.new,hk,(t.old _ h.b_lt).trans h.ob,(t.old _ (Z04 h.dsk)).trans h.odk,h.dsz,Z0g h.dsk t.chg (by rw [h.odk];exact h1),Z5w t (no 1 (by omega) (by omega)) h.gm,fun e=>Z5x t (no 2 (by omega) (by omega)) (h.jn e),
  Z5r h.wf t (by omega) (no 3 (by omega) (by omega)) h.lg,Z5s h.wf t (by omega) (no 4 (by omega) (by omega)) h.pn,Z5t h.wf t (by omega) (no 5 (by omega) (by omega)) h.rq,Z5v t (no 6 (by omega) (by omega)) h.tt,
  Z5u h.wf t (by omega) (no 7 (by omega) (by omega)) h.pf,Z28 h.wf t (no 8 (by omega) (by omega)) (no 9 (by omega) (by omega)) h.vt,Z29 t (no 10 (by omega) (by omega)) h.qm,Z1f t (no 11 (by omega) (by omega)) h.ask,Z1q t h0 (no 12 (by omega) (by omega)) h.out⟩
theorem NdR.grow (h:NdR own K w a s out) (hb:Below w.heap.size w w'):NdR own K w' a s out:=
 h.turn (J:=fun _=>False) (Turn.same (Chg.of_below hb) h.wf) (fun h=>h) (fun h=>h) (fun _ h=>h.elim)
end
end
section
open Go.RowKit
section
variable {own own':Nat→Nat} {K:Nat} {w w':World} {a:NdAt} {s:Nd} {out:List MsS}
theorem NdR.putD (h:NdR own K w a s out) (t:Turn (fun o=>o=K∨o=1) own own' w w') {d:Int} (hp:w'.heap[a.dk]?=some (.cells (a.cs.setIfInBounds (a.od+1) (.int .i64 d)) a.T (0,0))):NdR own' K w' a { s with dv:=d } out:=by
 have hk:=h.k16
 exact⟨t.new,hk,(t.old _ h.b_lt).trans h.ob,(t.old _ (Z04 h.dsk)).trans h.odk,h.dsz,hp,Z5w t (by show ¬ (K+1=K∨K+1=1);omega) h.gm,fun e=>Z5x t (by show ¬ (K+2=K∨K+2=1);omega) (h.jn e),Z5r h.wf t (by omega) (by show ¬ (K+3=K∨K+3=1);omega) h.lg,Z5s h.wf t (by omega) (by show ¬ (K+4=K∨K+4=1);omega) h.pn,Z5t h.wf t (by omega) (by show ¬ (K+5=K∨K+5=1);omega) h.rq,Z5v t (by show ¬ (K+6=K∨K+6=1);omega) h.tt,Z5u h.wf t (by omega) (by show ¬ (K+7=K∨K+7=1);omega) h.pf,Z28 h.wf t (by show ¬ (K+8=K∨K+8=1);omega) (by show ¬ (K+9=K∨K+9=1);omega) h.vt,Z29 t (by show ¬ (K+10=K∨K+10=1);omega) h.qm,Z1f t (by show ¬ (K+11=K∨K+11=1);omega) h.ask,Z1q t (by show ¬ (0=K∨0=1);omega) (by show ¬ (K+12=K∨K+12=1);omega) h.out⟩
theorem NdR.putG (h:NdR own K w a s out) (t:Turn (fun o=>o=K∨o=K+1) own own' w w') {bs:List Int} (hp:own' a.g=K+1∧gmO w' a.g s.id bs):NdR own' K w' a { s with boots:=bs } out:=by
 have hk:=h.k16
 exact⟨t.new,hk,(t.old _ h.b_lt).trans h.ob,(t.old _ (Z04 h.dsk)).trans h.odk,h.dsz,Z0g h.dsk t.chg (by rw [h.odk];show ¬ (1=K∨1=K+1);omega),hp,fun e=>Z5x t (by show ¬ (K+2=K∨K+2=K+1);omega) (h.jn e),Z5r h.wf t (by omega) (by show ¬ (K+3=K∨K+3=K+1);omega) h.lg,Z5s h.wf t (by omega) (by show ¬ (K+4=K∨K+4=K+1);omega) h.pn,Z5t h.wf t (by omega) (by show ¬ (K+5=K∨K+5=K+1);omega) h.rq,Z5v t (by show ¬ (K+6=K∨K+6=K+1);omega) h.tt,Z5u h.wf t (by omega) (by show ¬ (K+7=K∨K+7=K+1);omega) h.pf,Z28 h.wf t (by show ¬ (K+8=K∨K+8=K+1);omega) (by show ¬ (K+9=K∨K+9=K+1);omega) h.vt,Z29 t (by show ¬ (K+10=K∨K+10=K+1);omega) h.qm,Z1f t (by show ¬ (K+11=K∨K+11=K+1);omega) h.ask,Z1q t (by show ¬ (0=K∨0=K+1);omega) (by show ¬ (K+12=K∨K+12=K+1);omega) h.out⟩
theorem NdR.putL (h:NdR own K w a s out) (t:Turn (fun o=>o=K∨o=K+3) own own' w w') {l:Nat} {L:List Ent} (hp:lgO w' (Is own' (K+3)) l L):NdR own' K w' { a with l:=l } { s with L:=L } out:=by
 have hk:=h.k16
 exact⟨t.new,hk,(t.old _ h.b_lt).trans h.ob,(t.old _ (Z04 h.dsk)).trans h.odk,h.dsz,Z0g h.dsk t.chg (by rw [h.odk];show ¬ (1=K∨1=K+3);omega),Z5w t (by show ¬ (K+1=K∨K+1=K+3);omega) h.gm,fun e=>Z5x t (by show ¬ (K+2=K∨K+2=K+3);omega) (h.jn e),hp,Z5s h.wf t (by omega) (by show ¬ (K+4=K∨K+4=K+3);omega) h.pn,Z5t h.wf t (by omega) (by show ¬ (K+5=K∨K+5=K+3);omega) h.rq,Z5v t (by show ¬ (K+6=K∨K+6=K+3);omega) h.tt,Z5u h.wf t (by omega) (by show ¬ (K+7=K∨K+7=K+3);omega) h.pf,Z28 h.wf t (by show ¬ (K+8=K∨K+8=K+3);omega) (by show ¬ (K+9=K∨K+9=K+3);omega) h.vt,Z29 t (by show ¬ (K+10=K∨K+10=K+3);omega) h.qm,Z1f t (by show ¬ (K+11=K∨K+11=K+3);omega) h.ask,Z1q t (by show ¬ (0=K∨0=K+3);omega) (by show ¬ (K+12=K∨K+12=K+3);omega) h.out⟩
theorem NdR.putP (h:NdR own K w a s out) (t:Turn (fun o=>o=K∨o=K+4) own own' w w') {q:Int} {l:List Ent} (hp:pnO w' (Is own' (K+4)) a.p s.id s.boot q l):NdR own' K w' a { s with pseq:=q,pend:=l } out:=by
 have hk:=h.k16
 exact⟨t.new,hk,(t.old _ h.b_lt).trans h.ob,(t.old _ (Z04 h.dsk)).trans h.odk,h.dsz,Z0g h.dsk t.chg (by rw [h.odk];show ¬ (1=K∨1=K+4);omega),Z5w t (by show ¬ (K+1=K∨K+1=K+4);omega) h.gm,fun e=>Z5x t (by show ¬ (K+2=K∨K+2=K+4);omega) (h.jn e),Z5r h.wf t (by omega) (by show ¬ (K+3=K∨K+3=K+4);omega) h.lg,hp,Z5t h.wf t (by omega) (by show ¬ (K+5=K∨K+5=K+4);omega) h.rq,Z5v t (by show ¬ (K+6=K∨K+6=K+4);omega) h.tt,Z5u h.wf t (by omega) (by show ¬ (K+7=K∨K+7=K+4);omega) h.pf,Z28 h.wf t (by show ¬ (K+8=K∨K+8=K+4);omega) (by show ¬ (K+9=K∨K+9=K+4);omega) h.vt,Z29 t (by show ¬ (K+10=K∨K+10=K+4);omega) h.qm,Z1f t (by show ¬ (K+11=K∨K+11=K+4);omega) h.ask,Z1q t (by show ¬ (0=K∨0=K+4);omega) (by show ¬ (K+12=K∨K+12=K+4);omega) h.out⟩
theorem NdR.putR (h:NdR own K w a s out) (t:Turn (fun o=>o=K∨o=K+5) own own' w w') {td:Td} (hp:rqO w' (Is own' (K+5)) a.r td):NdR own' K w' a { s with td:=td } out:=by
 have hk:=h.k16
 exact⟨t.new,hk,(t.old _ h.b_lt).trans h.ob,(t.old _ (Z04 h.dsk)).trans h.odk,h.dsz,Z0g h.dsk t.chg (by rw [h.odk];show ¬ (1=K∨1=K+5);omega),Z5w t (by show ¬ (K+1=K∨K+1=K+5);omega) h.gm,fun e=>Z5x t (by show ¬ (K+2=K∨K+2=K+5);omega) (h.jn e),Z5r h.wf t (by omega) (by show ¬ (K+3=K∨K+3=K+5);omega) h.lg,Z5s h.wf t (by omega) (by show ¬ (K+4=K∨K+4=K+5);omega) h.pn,hp,Z5v t (by show ¬ (K+6=K∨K+6=K+5);omega) h.tt,Z5u h.wf t (by omega) (by show ¬ (K+7=K∨K+7=K+5);omega) h.pf,Z28 h.wf t (by show ¬ (K+8=K∨K+8=K+5);omega) (by show ¬ (K+9=K∨K+9=K+5);omega) h.vt,Z29 t (by show ¬ (K+10=K∨K+10=K+5);omega) h.qm,Z1f t (by show ¬ (K+11=K∨K+11=K+5);omega) h.ask,Z1q t (by show ¬ (0=K∨0=K+5);omega) (by show ¬ (K+12=K∨K+12=K+5);omega) h.out⟩
theorem NdR.putT (h:NdR own K w a s out) (t:Turn (fun o=>o=K∨o=K+6) own own' w w') {L:Tb} (hp:own' a.tq=K+6∧own' a.tb=K+6∧TbO w' a.tq a.tb L):NdR own' K w' a { s with tb:=L } out:=by
 have hk:=h.k16
 exact⟨t.new,hk,(t.old _ h.b_lt).trans h.ob,(t.old _ (Z04 h.dsk)).trans h.odk,h.dsz,Z0g h.dsk t.chg (by rw [h.odk];show ¬ (1=K∨1=K+6);omega),Z5w t (by show ¬ (K+1=K∨K+1=K+6);omega) h.gm,fun e=>Z5x t (by show ¬ (K+2=K∨K+2=K+6);omega) (h.jn e),Z5r h.wf t (by omega) (by show ¬ (K+3=K∨K+3=K+6);omega) h.lg,Z5s h.wf t (by omega) (by show ¬ (K+4=K∨K+4=K+6);omega) h.pn,Z5t h.wf t (by omega) (by show ¬ (K+5=K∨K+5=K+6);omega) h.rq,hp,Z5u h.wf t (by omega) (by show ¬ (K+7=K∨K+7=K+6);omega) h.pf,Z28 h.wf t (by show ¬ (K+8=K∨K+8=K+6);omega) (by show ¬ (K+9=K∨K+9=K+6);omega) h.vt,Z29 t (by show ¬ (K+10=K∨K+10=K+6);omega) h.qm,Z1f t (by show ¬ (K+11=K∨K+11=K+6);omega) h.ask,Z1q t (by show ¬ (0=K∨0=K+6);omega) (by show ¬ (K+12=K∨K+12=K+6);omega) h.out⟩
theorem NdR.putF (h:NdR own K w a s out) (t:Turn (fun o=>o=K∨o=K+7) own own' w w') {p:Pf} (hp:pfO w' (Is own' (K+7)) a.f p):NdR own' K w' a { s with pf:=p } out:=by
 have hk:=h.k16
 exact⟨t.new,hk,(t.old _ h.b_lt).trans h.ob,(t.old _ (Z04 h.dsk)).trans h.odk,h.dsz,Z0g h.dsk t.chg (by rw [h.odk];show ¬ (1=K∨1=K+7);omega),Z5w t (by show ¬ (K+1=K∨K+1=K+7);omega) h.gm,fun e=>Z5x t (by show ¬ (K+2=K∨K+2=K+7);omega) (h.jn e),Z5r h.wf t (by omega) (by show ¬ (K+3=K∨K+3=K+7);omega) h.lg,Z5s h.wf t (by omega) (by show ¬ (K+4=K∨K+4=K+7);omega) h.pn,Z5t h.wf t (by omega) (by show ¬ (K+5=K∨K+5=K+7);omega) h.rq,Z5v t (by show ¬ (K+6=K∨K+6=K+7);omega) h.tt,hp,Z28 h.wf t (by show ¬ (K+8=K∨K+8=K+7);omega) (by show ¬ (K+9=K∨K+9=K+7);omega) h.vt,Z29 t (by show ¬ (K+10=K∨K+10=K+7);omega) h.qm,Z1f t (by show ¬ (K+11=K∨K+11=K+7);omega) h.ask,Z1q t (by show ¬ (0=K∨0=K+7);omega) (by show ¬ (K+12=K∨K+12=K+7);omega) h.out⟩
theorem NdR.putV (h:NdR own K w a s out) (t:Turn (fun o=>o=K∨o=K+8∨o=K+9) own own' w w') {vb:Nat} {u:Int} {l:List Vt} (hp:∃ ls:List VtS,l=ls.map VtS.v∧vtO 173 184 w' (Is own' (K+8)) (Is own' (K+9)) vb u s.n ls):NdR own' K w' { a with v:=some vb } { s with v:=some (u,l) } out:=by
 have hk:=h.k16
 exact⟨t.new,hk,(t.old _ h.b_lt).trans h.ob,(t.old _ (Z04 h.dsk)).trans h.odk,h.dsz,Z0g h.dsk t.chg (by rw [h.odk];show ¬ (1=K∨1=K+8∨1=K+9);omega),Z5w t (by show ¬ (K+1=K∨K+1=K+8∨K+1=K+9);omega) h.gm,fun e=>Z5x t (by show ¬ (K+2=K∨K+2=K+8∨K+2=K+9);omega) (h.jn e),Z5r h.wf t (by omega) (by show ¬ (K+3=K∨K+3=K+8∨K+3=K+9);omega) h.lg,Z5s h.wf t (by omega) (by show ¬ (K+4=K∨K+4=K+8∨K+4=K+9);omega) h.pn,Z5t h.wf t (by omega) (by show ¬ (K+5=K∨K+5=K+8∨K+5=K+9);omega) h.rq,Z5v t (by show ¬ (K+6=K∨K+6=K+8∨K+6=K+9);omega) h.tt,Z5u h.wf t (by omega) (by show ¬ (K+7=K∨K+7=K+8∨K+7=K+9);omega) h.pf,hp,Z29 t (by show ¬ (K+10=K∨K+10=K+8∨K+10=K+9);omega) h.qm,Z1f t (by show ¬ (K+11=K∨K+11=K+8∨K+11=K+9);omega) h.ask,Z1q t (by show ¬ (0=K∨0=K+8∨0=K+9);omega) (by show ¬ (K+12=K∨K+12=K+8∨K+12=K+9);omega) h.out⟩
theorem NdR.putQ (h:NdR own K w a s out) (t:Turn (fun o=>o=K∨o=K+10) own own' w w') {b:Nat} {q:Qd} (hp:own' b=K+10∧qO w' b q.n q.mem q.me q.H q.P q.last):NdR own' K w' { a with qb:=some b } { s with q:=some q } out:=by
 have hk:=h.k16
 exact⟨t.new,hk,(t.old _ h.b_lt).trans h.ob,(t.old _ (Z04 h.dsk)).trans h.odk,h.dsz,Z0g h.dsk t.chg (by rw [h.odk];show ¬ (1=K∨1=K+10);omega),Z5w t (by show ¬ (K+1=K∨K+1=K+10);omega) h.gm,fun e=>Z5x t (by show ¬ (K+2=K∨K+2=K+10);omega) (h.jn e),Z5r h.wf t (by omega) (by show ¬ (K+3=K∨K+3=K+10);omega) h.lg,Z5s h.wf t (by omega) (by show ¬ (K+4=K∨K+4=K+10);omega) h.pn,Z5t h.wf t (by omega) (by show ¬ (K+5=K∨K+5=K+10);omega) h.rq,Z5v t (by show ¬ (K+6=K∨K+6=K+10);omega) h.tt,Z5u h.wf t (by omega) (by show ¬ (K+7=K∨K+7=K+10);omega) h.pf,Z28 h.wf t (by show ¬ (K+8=K∨K+8=K+10);omega) (by show ¬ (K+9=K∨K+9=K+10);omega) h.vt,hp,Z1f t (by show ¬ (K+11=K∨K+11=K+10);omega) h.ask,Z1q t (by show ¬ (0=K∨0=K+10);omega) (by show ¬ (K+12=K∨K+12=K+10);omega) h.out⟩
theorem NdR.putA (h:NdR own K w a s out) (t:Turn (fun o=>o=K∨o=K+11) own own' w w') {av:Value} {l:List (Int × Int × Int)} (hp:ownG Z1i w' 0 179 av l∧∀ k,av.ownBlock=some k→own' k=K+11):NdR own' K w' { a with av:=av } { s with asked:=l } out:=by
 have hk:=h.k16
 exact⟨t.new,hk,(t.old _ h.b_lt).trans h.ob,(t.old _ (Z04 h.dsk)).trans h.odk,h.dsz,Z0g h.dsk t.chg (by rw [h.odk];show ¬ (1=K∨1=K+11);omega),Z5w t (by show ¬ (K+1=K∨K+1=K+11);omega) h.gm,fun e=>Z5x t (by show ¬ (K+2=K∨K+2=K+11);omega) (h.jn e),Z5r h.wf t (by omega) (by show ¬ (K+3=K∨K+3=K+11);omega) h.lg,Z5s h.wf t (by omega) (by show ¬ (K+4=K∨K+4=K+11);omega) h.pn,Z5t h.wf t (by omega) (by show ¬ (K+5=K∨K+5=K+11);omega) h.rq,Z5v t (by show ¬ (K+6=K∨K+6=K+11);omega) h.tt,Z5u h.wf t (by omega) (by show ¬ (K+7=K∨K+7=K+11);omega) h.pf,Z28 h.wf t (by show ¬ (K+8=K∨K+8=K+11);omega) (by show ¬ (K+9=K∨K+9=K+11);omega) h.vt,Z29 t (by show ¬ (K+10=K∨K+10=K+11);omega) h.qm,hp,Z1q t (by show ¬ (0=K∨0=K+11);omega) (by show ¬ (K+12=K∨K+12=K+11);omega) h.out⟩
theorem NdR.putO (h:NdR own K w a s out) (t:Turn (fun o=>o=K∨o=K+12) own own' w w') {ov:Value} {out':List MsS} (hp:ownG Z23 w' 0 37 ov out'∧(∀ k,ov.ownBlock=some k→own' k=K+12)∧∀ x ∈ out',rdE w' x.s x.m.ents∧(0<x.m.ents.length→∀ k,x.s.ownBlock=some k→own' k=0)):NdR own' K w' { a with ov:=ov } s out':=by
 have hk:=h.k16
 exact⟨t.new,hk,(t.old _ h.b_lt).trans h.ob,(t.old _ (Z04 h.dsk)).trans h.odk,h.dsz,Z0g h.dsk t.chg (by rw [h.odk];show ¬ (1=K∨1=K+12);omega),Z5w t (by show ¬ (K+1=K∨K+1=K+12);omega) h.gm,fun e=>Z5x t (by show ¬ (K+2=K∨K+2=K+12);omega) (h.jn e),Z5r h.wf t (by omega) (by show ¬ (K+3=K∨K+3=K+12);omega) h.lg,Z5s h.wf t (by omega) (by show ¬ (K+4=K∨K+4=K+12);omega) h.pn,Z5t h.wf t (by omega) (by show ¬ (K+5=K∨K+5=K+12);omega) h.rq,Z5v t (by show ¬ (K+6=K∨K+6=K+12);omega) h.tt,Z5u h.wf t (by omega) (by show ¬ (K+7=K∨K+7=K+12);omega) h.pf,Z28 h.wf t (by show ¬ (K+8=K∨K+8=K+12);omega) (by show ¬ (K+9=K∨K+9=K+12);omega) h.vt,Z29 t (by show ¬ (K+10=K∨K+10=K+12);omega) h.qm,Z1f t (by show ¬ (K+11=K∨K+11=K+12);omega) h.ask,hp⟩
abbrev kS (s:Nd):=(s.id,s.n,s.boot,s.knows,s.L,s.pend,s.pseq,s.td,s.tb,s.pf,s.v,s.q,s.asked,s.boots,s.jp,s.dv)
theorem NdR.re (h:NdR own K w a s out) (s':Nd) (e:kS s'=kS s):NdR own K w a s' out:=by
 simp only [kS,Prod.mk.injEq] at e
 obtain⟨e1,e2,e3,e4,e5,e6,e7,e8,e9,e10,e11,e12,e13,e14,e15,e16⟩:=e
 exact⟨h.wf,h.k16,h.ob,h.odk,h.dsz,by rw [e16];exact h.dsk,by rw [e1,e14];exact h.gm,by rw [e4,e1,e2,e3,e15];exact h.jn,by rw [e5];exact h.lg,by rw [e1,e3,e7,e6];exact h.pn,by rw [e8];exact h.rq,by rw [e9];exact h.tt,
  by rw [e10];exact h.pf,by rw [e11,e2];exact h.vt,by rw [e12];exact h.qm,by rw [e13];exact h.ask,h.out⟩
theorem NdR.noV (h:NdR own K w a s out):NdR own K w { a with v:=none } { s with v:=none } out:=
 ⟨h.wf,h.k16,h.ob,h.odk,h.dsz,h.dsk,h.gm,h.jn,h.lg,h.pn,h.rq,h.tt,h.pf,(by unfold vtM;trivial),h.qm,h.ask,h.out⟩
theorem NdR.noA (h:NdR own K w a s out):NdR own K w { a with av:=.slice none 0 0 } { s with asked:=[] } out:=
 ⟨h.wf,h.k16,h.ob,h.odk,h.dsz,h.dsk,h.gm,h.jn,h.lg,h.pn,h.rq,h.tt,h.pf,h.vt,h.qm,⟨Z12 _ _ _ _,fun k hk=>by cases hk⟩,h.out⟩
theorem NdR.noO (h:NdR own K w a s out):NdR own K w { a with ov:=.slice none 0 0 } s []:=
 ⟨h.wf,h.k16,h.ob,h.odk,h.dsz,h.dsk,h.gm,h.jn,h.lg,h.pn,h.rq,h.tt,h.pf,h.vt,h.qm,h.ask,⟨Z12 _ _ _ _,fun k hk=>(by cases hk),fun x hx=>(by cases hx)⟩⟩
end
end
section
open Go.RowKit
theorem Z1m (dk od:Nat) (dv:Int) (w:World) (h1:w.cell? ⟨dk,od+1,none⟩=some (.int .i64 dv)) :
  Calls Tryz.prog 60 #[.pointer (some ⟨dk,od,none⟩)] w fun r w'=>r=.returned (.int .i64 dv)∧w=w':=by
 have hl:=Z0f h1
 go_enter Tryz.func60,Tryz.ntmps60
 go_wp2
 go_ret
 exact⟨rfl,rfl⟩
theorem Zfp (dk od:Nat) (boot:Int) (w:World) (h0:w.cell? ⟨dk,od,none⟩=some (.int .i64 boot)) (hz:w.frozen? ⟨dk,od,none⟩=false) (hb0:0≤boot) (hb:boot<1099511627776) :
  Calls Tryz.prog 90 #[.pointer (some ⟨dk,od,none⟩)] w fun r w'=>r=.returned (.int .i64 (boot+1))∧w'=w.setCell ⟨dk,od,none⟩ (.int .i64 (boot+1)):=by
 have hl:=Z0f h0
 have hb2:¬ boot ≥ 1099511627776:=by omega
 go_enter Tryz.func90,Tryz.ntmps90
 go_wp2
 go_ret
 exact⟨rfl,rfl⟩
theorem Z7b (dk od:Nat) (dv view:Int) (w:World) (h1:w.cell? ⟨dk,od+1,none⟩=some (.int .i64 dv)) (hv:view≤dv∨1099511627776<view) :
  Calls Tryz.prog 137 #[.pointer (some ⟨dk,od,none⟩), .int .i64 view] w fun r w'=>r=.returned (.bool false)∧w=w':=by
 have hl:=Z0f h1
 by_cases hv2:view≤dv
 ·go_enter Tryz.func137,Tryz.ntmps137
  go_wp2
  go_ret
  exact⟨rfl,rfl⟩
 ·have hv3:view > 1099511627776:=by omega
  clear hv
  go_enter Tryz.func137,Tryz.ntmps137
  go_wp2
  go_ret
  exact⟨rfl,rfl⟩
theorem Zaj (dk od:Nat) (dv view:Int) (w:World) (h1:w.cell? ⟨dk,od+1,none⟩=some (.int .i64 dv)) (hz:w.frozen? ⟨dk,od+1,none⟩=false) (hv:dv<view) (hv2:view≤1099511627776) :
  Calls Tryz.prog 137 #[.pointer (some ⟨dk,od,none⟩), .int .i64 view] w fun r w'=>r=.returned (.bool true)∧w'=w.setCell ⟨dk,od+1,none⟩ (.int .i64 view):=by
 have hl:=Z0f h1
 have hv3:¬ view≤dv:=by omega
 have hv4:¬ view > 1099511627776:=by omega
 go_enter Tryz.func137,Tryz.ntmps137
 go_wp2
 go_ret
 exact⟨rfl,rfl⟩
theorem gNew_any (me:Int) (w:World) (h1:1≤me) (h7:me≤7) :
  Calls Tryz.prog 91 #[.int .i64 me] w fun r w'=>r=.returned (.pointer (some ⟨w.heap.size,0,none⟩))∧gmO w' w.heap.size me Z3c∧Below w.heap.size w w':=by
 have hh1:me ≥ 1:=h1
 have hh:=hd_ h7
 obtain⟨b,hb⟩:∃ b,decide (me≤7)=b:=⟨_,rfl⟩
 have a0:b=true:=by rw [← hb];simpa using h7
 subst a0
 go_enter Tryz.func91,Tryz.ntmps91
 go_wp2
 go_ret
 exact⟨rfl,⟨Z0a w _,rfl⟩,(Below.refl _ _).alloc (Nat.le_refl _) _⟩
theorem Zif (me boot:Int) (w:World) (h1:1≤me) (h7:me≤7) (hb:1≤boot) (hb2:boot≤1099511627776) :
  Calls Tryz.prog 93 #[.int .i64 me, .int .i64 boot] w fun r w'=>r=.returned (.pointer (some ⟨w.heap.size,0,none⟩))∧pnO w' (fun k=>k=w.heap.size) w.heap.size me boot 0 []∧Below w.heap.size w w':=by
 have g1:¬ me<1:=by omega
 have g2:¬ me > 7:=by omega
 have g3:¬ boot<1:=by omega
 have g4:¬ boot > 1099511627776:=by omega
 go_enter Tryz.func93,Tryz.ntmps93
 go_wp2
 go_ret
 exact⟨rfl,⟨rfl,_,Z0a w _,World.ownsRow_nil _ _ _ _,fun k hk=>by cases hk⟩,(Below.refl _ _).alloc (Nat.le_refl _) _⟩
theorem Zig (w:World) :
  Calls Tryz.prog 94 #[] w fun r w'=>r=.returned (.pointer (some ⟨w.heap.size,0,none⟩))∧rqO w' (fun k=>k=w.heap.size) w.heap.size []∧Below w.heap.size w w':=by
 go_enter Tryz.func94,Tryz.ntmps94
 go_wp2
 go_ret
 exact⟨rfl,⟨rfl,_,Z0a w _,Z12 _ _ _ _,fun k hk=>by cases hk⟩,(Below.refl _ _).alloc (Nat.le_refl _) _⟩
theorem Zih (base:Int) (w:World) :
  Calls Tryz.prog 97 #[.int .i64 base] w fun r w'=>r=.returned (.pointer (some ⟨w.heap.size,0,none⟩))∧pfO w' (fun k=>k=w.heap.size) w.heap.size (.fresh base)∧Below w.heap.size w w':=by
 go_enter Tryz.func97,Tryz.ntmps97
 go_wp2
 go_ret
 exact⟨rfl,⟨rfl,_,Z0a w _,fun k hk=>(by cases hk),(.inl ⟨rfl,rfl⟩)⟩,(Below.refl _ _).alloc (Nat.le_refl _) _⟩
theorem Zfq (b:Nat) (p:Pf) (F:Nat→Prop) (w:World) (h:pfO w F b p) :
  Calls Tryz.prog 140 #[.pointer (some ⟨b,0,none⟩)] w fun r w'=>r=.returned (.tuple #[])∧pfO w' F b p.drop∧Chg F w w':=by
 obtain⟨hF,v,hb,_,_⟩:=h
 have u0:=Z00 hb 0
 have u1:=Z00 hb 1
 have u2:=Z00 hb 2
 have u3:=Z00 hb 3
 have u4:=Z00 hb 4
 have u5:=Z00 hb 5
 simp only [List.getElem?_toArray,List.getElem?_cons_zero,List.getElem?_cons_succ] at u0 u1 u2 u3 u4 u5
 have z0:=Z03 hb 0
 have z1:=Z03 hb 1
 have z2:=Z03 hb 2
 have z3:=Z03 hb 3
 have z4:=Z03 hb 4
 have z5:=Z03 hb 5
 have hl:=Z04 hb
 obtain⟨n,as_,hs,bn,bc,co⟩:=p
 dsimp only at *
 have a0:Hid (pfO ((((((w.setCell ⟨b,0,none⟩ (.int .i64 n)).setCell ⟨b,1,none⟩ (.slice none 0 0)).setCell ⟨b,2,none⟩ (.bool false)).setCell ⟨b,3,none⟩ (.int .i64 0)).setCell ⟨b,4,none⟩ (.int .i64 0)).setCell ⟨b,5,none⟩ (.int .i64 0)) F b ⟨n,[],false,0,0,0⟩ ∧
   Chg F w ((((((w.setCell ⟨b,0,none⟩ (.int .i64 n)).setCell ⟨b,1,none⟩ (.slice none 0 0)).setCell ⟨b,2,none⟩ (.bool false)).setCell ⟨b,3,none⟩ (.int .i64 0)).setCell ⟨b,4,none⟩ (.int .i64 0)).setCell ⟨b,5,none⟩ (.int .i64 0))):=hd_
  ⟨⟨hF,_,Z0d (Z0d (Z0d (Z0d (Z0d (Z0d hb))))),fun k hk=>(by cases hk),(.inl ⟨rfl,rfl⟩)⟩,Z06 (Z06 (Z06 (Z06 (Z06 (Z06 (Chg.refl _ _) hF) hF) hF) hF) hF) hF⟩
 replace hb:=hd_ hb
 go_enter Tryz.func140,Tryz.ntmps140
 go_wp2
 go_end0
 exact⟨rfl,a0.out⟩
end
section
open Go.RowKit
theorem NdO.cell (own:Nat→Nat) {K:Nat} {w:World} {a:NdAt} {s:Nd} {out:List MsS} (h:NdO own K w a s out) (o:Nat):w.cell? ⟨a.b,o,none⟩=(ndC a s)[o]?:=Z00 h.blk o
theorem Z5y {w:World} {g n:Nat} {cs:Array Value} {T:TypeId} {fr:Nat × Nat} {size m:Nat} (h:w.heap[g]?=some (.cells cs T fr)) (hc:cs.size=m*size):srcRow w size (.slice (some ⟨g,0,none⟩) m n) m cs.toList:=by
 refine⟨by simpa using hc, .inr ⟨_,_,rfl,fun j u hu=>?_⟩⟩
 have e:(⟨g,0,none⟩:Addr).add j=⟨g,j,none⟩:=by
  unfold Addr.add;split
  ·next h=>subst h;rfl
  ·simp
 rw [e,Z00 h]
 simpa using hu
theorem Ze5 (own:Nat→Nat) (K:Nat) (a:NdAt) (s:Nd) (out:List MsS) (m:Ms) (sa:Option Addr) (sc:Nat) (w:World) (h:NdO own K w a s out)
  (hs:rdE w (.slice sa m.ents.length sc) m.ents) (hp:0<m.ents.length→∀ k,(Value.slice sa m.ents.length sc).ownBlock=some k→own k=0) (hl:out.length≤1000000000) :
  Calls Tryz.prog 116 #[Z09 a.b,Z0w m (.slice sa m.ents.length sc)] w fun r w'=>r=.returned (.tuple #[]) ∧
   ∃ own' ov,NdO own' K w' { a with ov:=ov } s (out++[⟨{ m with frm:=s.id,boot:=s.boot },sa,sc⟩])∧Turn (fun o=>o=K∨o=K+12) own own' w w':=by
 obtain⟨i0,hi,l2,e2,y1⟩:=info_parts Zib
 replace hi:=hd_ hi
 obtain⟨hb,he,hR⟩:=h
 have c0:w.cell? ⟨a.b,0,none⟩=some (.int .i64 s.id):=Z00 hb 0
 have c3:w.cell? ⟨a.b,3,none⟩=some (.int .i64 s.boot):=Z00 hb 3
 have x1:w.cell? ⟨a.b,33,none⟩=some a.ov:=(Z00 hb 33).trans (Zai a s he)
 have hbl:=Z04 hb
 obtain⟨k,f,t,b,v,l,me,po,es,co,nu,cl,y⟩:=m
 dsimp only at hs hp ⊢
 obtain⟨n,hn⟩:∃ n,es.length=n:=⟨_,rfl⟩
 rw [hn] at hs hp ⊢
 obtain⟨W,hW⟩:∃ W,W=w.alloc (.cells #[.int .i64 k, .int .i64 f, .int .i64 t, .int .i64 b, .int .i64 v, .int .i64 l, .int .i64 me, .int .i64 po, .slice sa n sc, .int .i64 co, .int .i64 nu, .int .i64 cl, .bool y] 37):=⟨_,rfl⟩
 have hB:Below w.heap.size w W:=hW ▸ (Below.refl _ _).alloc (Nat.le_refl _) _
 have hx:W.heap[w.heap.size]?=some (.cells #[.int .i64 k, .int .i64 f, .int .i64 t, .int .i64 b, .int .i64 v, .int .i64 l, .int .i64 me, .int .i64 po, .slice sa n sc, .int .i64 co, .int .i64 nu, .int .i64 cl, .bool y] 37 (0,0)):=hW ▸ Z0a _ _
 have w0:=Z02 hb hB
 obtain⟨nb,k0⟩:∃ nb,nb=w.heap.size:=⟨_,rfl⟩
 rw [← k0] at hx
 have g1:a.b≠nb:=by omega
 replace hR:=hd_ hR;replace hb:=hd_ hb;replace w0:=hd_ w0;replace hB:=hd_ hB;replace hx:=hd_ hx;replace hs:=hd_ hs;replace hp:=hd_ hp;replace hn:=hd_ hn
 go_enter Tryz.func116,Tryz.ntmps116
 go_upto_region 1 with (fail)
 rw [← hW,← k0]
 clear c0 c3 x1 hW;replace k0:=hd_ k0
 refine Z6d (fun k=>k=nb) W (.q 0 (.q 1 (.q 2 (.q 3 (.q 4 (.q 5 (.q 6 (.q 7 (.q 8 (.l 9 (.q 10 (.l 11 .fin)))))))))))) (by kernel_rfl) (by kernel_rfl) (Chg.refl _ _) ?_
 intro w1 hh l0 a1
 have f1:w1.heap[a.b]?=some (.cells (ndC a s) 115 (0,0)):=by rw [hh];exact w0.out
 have g0:w1.heap[nb]?=some (.cells #[.int .i64 k, .int .i64 f, .int .i64 t, .int .i64 b, .int .i64 v, .int .i64 l, .int .i64 me, .int .i64 po, .slice sa n sc, .int .i64 co, .int .i64 nu, .int .i64 cl, .bool y] 37 (0,0)):=by rw [hh];exact hx.out
 have v1:=hd_ ((Chg.of_below (F:=fun c=>own c=K∨own c=K+12) hB.out).on l0)
 have u0:=Z01 (F:=fun k=>k=nb) (b:=W) g1 (show W.cell? ⟨a.b,0,none⟩=some (.int .i64 s.id) from Z00 w0.out 0)
 have u3:=Z01 (F:=fun k=>k=nb) (b:=W) g1 (show W.cell? ⟨a.b,3,none⟩=some (.int .i64 s.boot) from Z00 w0.out 3)
 have l1:=Z04 g0
 have q1:w1.cell? ⟨nb,1,none⟩=some (.int .i64 f):=Z00 g0 1
 have q3:w1.cell? ⟨nb,3,none⟩=some (.int .i64 b):=Z00 g0 3
 have z1:=Z03 g0 1
 have z3:=Z03 g0 3
 have r1:=hd_ l0
 clear hh l0;replace f1:=hd_ f1;replace g0:=hd_ g0
 have b1:=hd_ (show Below W.heap.size W w1 from r1.out)
 replace a1:=hd_ a1
 repeat (refine pm_q rfl ?_;go_big_quiet_step (fail);refine wpQuiet_nil ?_)
 refine pm_l rfl (by kernel_rfl) ?_
 intro K1 hK;go_simp
 refine hK _ _ (Z06 a1.out rfl) ?_
 clear hK K1
 refine pm_q rfl ?_;go_big_quiet_step (fail);refine wpQuiet_nil ?_
 refine pm_l rfl (by kernel_rfl) ?_
 intro K1 hK;go_simp
 refine hK _ _ (Z06 (Z06 a1.out rfl) rfl) ?_
 clear hK K1
 refine pm_fin ?_
 obtain⟨W2,r0⟩:∃ W2,W2=(w1.setCell ⟨nb,1,none⟩ (.int .i64 s.id)).setCell ⟨nb,3,none⟩ (.int .i64 s.boot):=⟨_,rfl⟩
 rw [← r0]
 have j1:W2.heap[nb]?=some (.cells #[.int .i64 k, .int .i64 s.id, .int .i64 t, .int .i64 s.boot, .int .i64 v, .int .i64 l, .int .i64 me, .int .i64 po, .slice sa n sc, .int .i64 co, .int .i64 nu, .int .i64 cl, .bool y] 37 (0,0)):=r0 ▸ Z0d (Z0d g0.out)
 have s1:W2.heap[a.b]?=some (.cells (ndC a s) 115 (0,0)):=r0 ▸ Z0u (Z0u f1.out g1) g1
 have d1:Chg (fun c=>own c=K∨own c=K+12) w W2:=r0 ▸ Z98 (Z98 v1.out (by have:=k0.out;omega)) (by have:=k0.out;omega)
 have k1:NdR own K W2 a s out:=hR.out.turn (Turn.same (J:=fun o=>o=K) (r0 ▸ Z98 (Z98 ((Chg.of_below hB.out).on b1.out) (by have:=k0.out;omega)) (by have:=k0.out;omega)) hR.out.wf) (by have:=hR.out.k16;omega) (by have:=hR.out.k16;omega) (fun i e=>by omega)
 have e1:=hR.out.wf
 have a2:=hR.out.k16
 have t1:=hR.out.ob
 have x0:own nb=0:=e1 nb (by have:=k0.out;omega)
 obtain⟨j0,e0,n0⟩:=k1.out
 have m1:¬ own a.b=K+12:=by omega
 have d0:¬ own nb=K+12:=by omega
 clear r0 g0 f1 v1 a1 q1 q3 z1 z3 l1 u0 u3 hx w0 hB b1;replace j1:=hd_ j1;replace s1:=hd_ s1;replace d1:=hd_ d1;replace k1:=hd_ k1;replace j0:=hd_ j0;replace e0:=hd_ e0;replace n0:=hd_ n0;replace e1:=hd_ e1;replace t1:=hd_ t1;replace x0:=hd_ x0;go_upto_region 2 with (fail)
 refine Z05 (fun c=>own c=K+12) (.q 0 (.q 1 (.q 2 (.q 3 (.q 4 (.q 5 (.l 6 (.l 7 (.q 8 (.q 9 (.cut (.l 10 .fin)))))))))))) (by kernel_rfl) (by kernel_rfl) ?_
 intro w4 hh l0
 have t0:w4.heap[a.b]?=some (.cells (ndC a s) 115 (0,0)):=by rw [hh];exact s1.out
 have b0:w4.heap[nb]?=some (.cells #[.int .i64 k, .int .i64 s.id, .int .i64 t, .int .i64 s.boot, .int .i64 v, .int .i64 l, .int .i64 me, .int .i64 po, .slice sa n sc, .int .i64 co, .int .i64 nu, .int .i64 cl, .bool y] 37 (0,0)):=by rw [hh];exact j1.out
 have g2:=Z01 (F:=fun c=>own c=K+12) (b:=w4) m1 (show w4.cell? ⟨a.b,33,none⟩=some a.ov from (Z00 t0 33).trans (Zai a s he))
 have p0:=Z01 (F:=fun c=>own c=K+12) (b:=w4) d0 (show w4.cell? ⟨nb,0,none⟩=some (.int .i64 k) from Z00 b0 0)
 have p1:=Z01 (F:=fun c=>own c=K+12) (b:=w4) d0 (show w4.cell? ⟨nb,1,none⟩=some (.int .i64 s.id) from Z00 b0 1)
 have p2:=Z01 (F:=fun c=>own c=K+12) (b:=w4) d0 (show w4.cell? ⟨nb,2,none⟩=some (.int .i64 t) from Z00 b0 2)
 have p3:=Z01 (F:=fun c=>own c=K+12) (b:=w4) d0 (show w4.cell? ⟨nb,3,none⟩=some (.int .i64 s.boot) from Z00 b0 3)
 have p4:=Z01 (F:=fun c=>own c=K+12) (b:=w4) d0 (show w4.cell? ⟨nb,4,none⟩=some (.int .i64 v) from Z00 b0 4)
 have p5:=Z01 (F:=fun c=>own c=K+12) (b:=w4) d0 (show w4.cell? ⟨nb,5,none⟩=some (.int .i64 l) from Z00 b0 5)
 have p6:=Z01 (F:=fun c=>own c=K+12) (b:=w4) d0 (show w4.cell? ⟨nb,6,none⟩=some (.int .i64 me) from Z00 b0 6)
 have p7:=Z01 (F:=fun c=>own c=K+12) (b:=w4) d0 (show w4.cell? ⟨nb,7,none⟩=some (.int .i64 po) from Z00 b0 7)
 have p8:=Z01 (F:=fun c=>own c=K+12) (b:=w4) d0 (show w4.cell? ⟨nb,8,none⟩=some (.slice sa n sc) from Z00 b0 8)
 have p9:=Z01 (F:=fun c=>own c=K+12) (b:=w4) d0 (show w4.cell? ⟨nb,9,none⟩=some (.int .i64 co) from Z00 b0 9)
 have p10:=Z01 (F:=fun c=>own c=K+12) (b:=w4) d0 (show w4.cell? ⟨nb,10,none⟩=some (.int .i64 nu) from Z00 b0 10)
 have p11:=Z01 (F:=fun c=>own c=K+12) (b:=w4) d0 (show w4.cell? ⟨nb,11,none⟩=some (.int .i64 cl) from Z00 b0 11)
 have p12:=Z01 (F:=fun c=>own c=K+12) (b:=w4) d0 (show w4.cell? ⟨nb,12,none⟩=some (.bool y) from Z00 b0 12)
 have y0:=hd_ (j0.out.grow _ (hh ▸ l0:Below W2.heap.size W2 w4))
 replace hh:=hd_ hh;replace l0:=hd_ l0;replace t0:=hd_ t0;clear b0 j1 j0
 repeat (refine Z0n rfl ?_;go_big_quiet_step (fail);refine wpQuiet_nil ?_)
 clear g2 p0 p1 p2 p3 p4 p5 p6 p7 p8 p9 p10 p11 p12;refine Z0j rfl (by kernel_rfl) ?_;intro K1 hK;go_simp
 obtain⟨W5,o0⟩:∃ W5,W5=w4.alloc (.cells #[.int .i64 k, .int .i64 s.id, .int .i64 t, .int .i64 s.boot, .int .i64 v, .int .i64 l, .int .i64 me, .int .i64 po, .slice sa n sc, .int .i64 co, .int .i64 nu, .int .i64 cl, .bool y] 37):=⟨_,rfl⟩
 have z0:W5.heap[w4.heap.size]?=some (.cells #[.int .i64 k, .int .i64 s.id, .int .i64 t, .int .i64 s.boot, .int .i64 v, .int .i64 l, .int .i64 me, .int .i64 po, .slice sa n sc, .int .i64 co, .int .i64 nu, .int .i64 cl, .bool y] 37 (0,0)):=o0 ▸ Z0a _ _
 have o1:Chg (fun c=>own c=K+12) w4 W5:=o0 ▸ Z1a (Chg.refl _ _)
 have q0:Below w4.heap.size w4 W5:=o0 ▸ (Below.refl _ _).alloc (Nat.le_refl _) _
 have m0:=hd_ (y0.out.grow _ q0)
 have i2:=hd_ (Z02 t0.out q0)
 obtain⟨nc,i1⟩:∃ nc,nc=w4.heap.size:=⟨_,rfl⟩
 rw [← o0,← i1]
 rw [← i1] at z0
 replace z0:=hd_ z0;replace o0:=hd_ o0;replace i1:=hd_ i1
 refine hK _ _ o1 ?_
 clear hK K1
 have b2:=hi.out
 refine Z0j rfl (by kernel_rfl) ?_;intro K1 hK
 refine Z6e _ (.tmp 18) (.tmp 20) 40 rfl 0 37 i0 mg0.val 13 120 Tryz.underlying40 b2 l2 e2 y1 rfl (by decide) a.ov out.length (Z1h Z23 out) rfl m0.out (.slice (some ⟨nc,0,none⟩) 1 1) 1 _ rfl (Z5y z0.out rfl) ?c1 (by unfold maxLen;omega) (by omega) (Nat.zero_le _) ?_
 case c1=>
  intro u hu
  simp only [List.mem_cons,List.not_mem_nil,or_false] at hu
  rcases hu with rfl | rfl | rfl | rfl | rfl | rfl | rfl | rfl | rfl | rfl | rfl | rfl | rfl<;>rfl
 intro v6 w6 a0 u1 f0
 have s0:Chg (fun c=>own c=K+12) w4 w6:=Z10 o1 u1 fun k hk=>.inl (e0.out k hk)
 have v0:=Z0g t0.out s0 m1
 have f2:=Z04 v0
 have z6:=Z03 v0 33
 have q6:w6.cell? ⟨a.b,33,none⟩=some a.ov:=(Z00 v0 33).trans (Zai a s he)
 obtain⟨ad6,j2,n1⟩:∃ ad c,v6=.slice ad (out.length+1) c:=by
  rcases a0.2 with ⟨h,h0⟩ | ⟨g,cap,cur,h,_⟩
  ·omega
  ·exact⟨_,_,h⟩
 replace v0:=hd_ v0;replace a0:=hd_ a0;replace f0:=hd_ f0;clear u1 m0 i2 o1 q0 z0;go_simp
 refine hK _ _ s0 ?_
 clear hK K1;replace n1:=hd_ n1;refine Z0n rfl ?_;go_big_quiet_step (fail);refine wpQuiet_nil ?_;refine Z0n rfl ?_;go_big_quiet_step (fail);refine wpQuiet_nil ?_;refine Z0h Z1j ?_;refine Z0j rfl (by kernel_rfl) ?_;intro K1 hK;go_simp
 refine hK _ _ (Z06 (Chg.refl _ _) trivial) ?_
 clear hK K1;refine Z0c ?_;replace s0:=hd_ s0;go_wp2
 go_end0
 rw [← n1.out]
 have k2:Chg (fun c=>own c=K∨own c=K+12) w (w6.setCell ⟨a.b,33,none⟩ v6):=by
  refine Z06 ?_ (.inl t1.out)
  exact ((d1.out.on l0.out).more s0.out fun i e=>.inl (.inr e))
 have d2:w.heap.size≤w4.heap.size:=(d1.out.on l0.out).size
 have tn:=Turn.extJ (own:=own) (J:=fun o=>o=K∨o=K+12) (K+12) k2
 refine⟨rfl,_,⟨v6,⟨?_,he,hR.out.putO (out':=out++[⟨⟨k,s.id,t,s.boot,v,l,me,po,es,co,nu,cl,y⟩,sa,sc⟩]) tn ⟨?_,?_,?_⟩⟩⟩,tn⟩
 ·rw [← Z79 a s he];exact Z0d v0.out
 ·have e:ownG Z23 w6 0 37 v6 (out++[⟨⟨k,s.id,t,s.boot,v,l,me,po,es,co,nu,cl,y⟩,sa,sc⟩]):=by
   unfold ownG
   rw [List.length_append,Z1u]
   have:=a0.out
   rw [← hn.out] at this
   exact this
  refine e.same _ fun k hk=>Z0u rfl ?_
  rintro rfl
  rcases f0.out with h | h
  ·exact m1 (e0.out _ (h ▸ hk))
  ·rw [hk] at h
   injection h with h
   have:=Z04 t0.out
   have:=World.size_alloc
   have:=s0.out.size
   rw [h] at f2
   have hW:=o0.out
   rw [hW] at h
   simp at h
   omega
 ·intro k hk
  have c2:=a0.out.lt k hk
  rcases f0.out with h | h
  ·have h1:=e0.out k (h ▸ hk)
   rcases Nat.lt_or_ge k w.heap.size with h2 | h2
   ·rw [Z3k h2];exact h1
   ·have:=e1.out k h2;omega
  ·rw [hk] at h
   injection h with h
   have hW:=o0.out
   rw [hW] at h
   simp at h
   exact Z20 (by omega) (by rw [World.size_setCell];exact c2.2)
 ·intro x hx
  rcases List.mem_append.1 hx with h | h
  ·exact Z58 tn (by omega) (hR.out.out.2.2 x h)
  ·obtain rfl:=List.mem_singleton.1 h
   refine Z58 tn (by omega) ⟨?_,?_⟩
   ·show rdE w (.slice sa es.length sc) es
    rw [hn.out];exact hs.out
   ·show 0<es.length→∀ k,(Value.slice sa es.length sc).ownBlock=some k→own k=0
    rw [hn.out];exact hp.out
end
section
open Go.RowKit
section
variable {own:Nat→Nat} {K:Nat} {w:World} {a:NdAt} {s:Nd} {out:List MsS}
theorem NdO.c {own:Nat→Nat} {K:Nat} {w:World} {a:NdAt} {s:Nd} {out:List MsS} (h:NdO own K w a s out) (o:Nat):w.cell? ⟨a.b,o,none⟩=(ndC a s)[o]?:=Z00 h.blk o
theorem NdO.dv (h:NdO own K w a s out):w.cell? ⟨a.dk,a.od+1,none⟩=some (.int .i64 s.dv):=by
 rw [Z00 h.r.dsk]
 have:=h.r.dsz
 simp [this]
theorem NdO.grow {w':World} (h:NdO own K w a s out) (hb:Below w.heap.size w w'):NdO own K w' a s out:=⟨Z02 h.blk hb,h.ears,h.r.grow hb⟩
end
theorem Zak (own:Nat→Nat) (K:Nat) (a:NdAt) (s:Nd) (out:List MsS) (w:World) (h:NdO own K w a s out)
  (h1 : -1152921504606846976≤s.clock) (h2:s.clock≤1152921504606846976) (h3 : -1152921504606846976≤s.heard) (h4:s.heard≤1152921504606846976) (h5:0≤s.id) (h6:s.id≤1000) :
  Calls Tryz.prog 75 #[Z09 a.b] w fun r w'=>r=.returned (.bool s.late)∧Below w.heap.size w w':=by
 have c0:w.cell? ⟨a.b,0,none⟩=some (.int .i64 s.id):=h.c 0
 have c4:w.cell? ⟨a.b,4,none⟩=some (.int .i64 s.clock):=h.c 4
 have c5:w.cell? ⟨a.b,5,none⟩=some (.int .i64 s.heard):=h.c 5
 have hl:=Z0f c0
 have e:s.late=decide (8+2*s.id≤s.clock-s.heard):=rfl
 rw [e]
 generalize s.id=id at *
 generalize s.clock=cl at *
 generalize s.heard=hd at *
 clear h e
 go_enter Tryz.func75,Tryz.ntmps75
 have u0:=Z07 c0
 have u4:=Z07 c4
 have u5:=Z07 c5
 go_upto_region 1 with (fail)
 refine Z08 (by kernel_rfl) (by kernel_rfl) ?_
 repeat (go_big_quiet_step (fail))
 refine wpQuiet_nil ?_
 intro w2 a0
 have b0:=hd_ (Z0e a0)
 clear a0 u0 u4 u5 c0 c4 c5;go_wp2
 go_ret
 exact⟨Z0b (by first | rfl | (simp<;>omega)),b0.out⟩
theorem Z41 (own:Nat→Nat) (K:Nat) (a:NdAt) (s:Nd) (out:List MsS) (w:World) (h:NdO own K w a s out) (hm:0≤s.mem∧s.mem<128) :
  Calls Tryz.prog 77 #[Z09 a.b] w fun r w'=>r=.returned (.bool s.in_)∧Below w.heap.size w w':=by
 have c0:w.cell? ⟨a.b,0,none⟩=some (.int .i64 s.id):=h.c 0
 have c2:w.cell? ⟨a.b,2,none⟩=some (.pointer (some ⟨a.dk,a.od,none⟩)):=h.c 2
 have c8:w.cell? ⟨a.b,8,none⟩=some (.bool s.knows):=h.c 8
 have e0:w.cell? ⟨a.b,11,none⟩=some (.int .i64 s.last):=h.c 11
 have d0:w.cell? ⟨a.b,12,none⟩=some (.int .i64 s.mem):=h.c 12
 have hd:=h.dv
 have hl:=Z0f c0
 obtain⟨M,hM⟩:=Int.eq_ofNat_of_zero_le hm.1
 have h0:M<128:=by omega
 have e:s.in_=(s.knows&&decide (0<s.last)&&s.last==s.dv&&Z18 s.mem.toNat s.id):=rfl
 rw [e]
 rw [hM] at d0 ⊢
 have HV:Hid (∀ y,Calls Tryz.prog 60 #[.pointer (some ⟨a.dk,a.od,none⟩)] (Z1c w y) fun r w'=>r=.returned (.int .i64 s.dv)∧∃ z,w'=Z1c w z):=hd_ fun y=>Z0o (Z1m _ _ _ _ (Z07 hd y))
 obtain⟨q,hq⟩:∃ q,Z18 (M:Int).toNat s.id=q:=⟨_,rfl⟩
 have HH:Hid (∀ y,Calls Tryz.prog 128 #[.int .i64 (M:Int), .int .i64 s.id] (Z1c w y) fun r w'=>r=.returned (.bool q)∧∃ z,w'=Z1c w z):=hd_ fun y=>by
  rw [← hq];exact Z0o (Z5k _ _ _ h0)
 rw [hq]
 generalize s.id=id at *
 generalize s.knows=kn at *
 generalize s.last=la at *
 generalize s.dv=dv at *
 clear h e hd hM hm hq
 have u0:=Z07 c0
 have u2:=Z07 c2
 have u8:=Z07 c8
 have g0:=Z07 e0
 have f0:=Z07 d0
 cases kn
 case false=>
  go_enter Tryz.func77,Tryz.ntmps77
  go_upto_region 1 with (fail)
  refine Z08 (by kernel_rfl) (by kernel_rfl) ?_
  repeat (go_big_quiet_step (first | (go_at_call 60;exact HV.out _) | (go_at_call 128;exact HH.out _)))
  refine wpQuiet_nil ?_
  intro w2 a0
  have b0:=hd_ (Z0e a0)
  clear a0 u0 u2 u8 g0 f0 c0 c2 c8 e0 d0;go_wp2
  go_ret
  exact⟨rfl,b0.out⟩
 by_cases d1:0<la
 case neg=>
  have g1:decide (la > 0)=false:=by simpa using d1
  have g1':decide (0<la)=false:=by simpa using d1
  rw [g1']
  go_enter Tryz.func77,Tryz.ntmps77
  go_upto_region 1 with (fail)
  refine Z08 (by kernel_rfl) (by kernel_rfl) ?_
  repeat (go_big_quiet_step (first | (go_at_call 60;exact HV.out _) | (go_at_call 128;exact HH.out _)))
  refine wpQuiet_nil ?_
  intro w2 a0
  have b0:=hd_ (Z0e a0)
  clear a0 u0 u2 u8 g0 f0 c0 c2 c8 e0 d0;go_wp2
  go_ret
  exact⟨rfl,b0.out⟩
 have g1:decide (la > 0)=true:=by simpa using d1
 have g1':decide (0<la)=true:=by simpa using d1
 rw [g1']
 by_cases d2:la=dv
 case neg=>
  have g2:(la==dv)=false:=by simpa using d2
  rw [g2]
  go_enter Tryz.func77,Tryz.ntmps77
  go_upto_region 1 with (fail)
  refine Z08 (by kernel_rfl) (by kernel_rfl) ?_
  repeat (go_big_quiet_step (first | (go_at_call 60;exact HV.out _) | (go_at_call 128;exact HH.out _)))
  refine wpQuiet_nil ?_
  intro w2 a0
  have b0:=hd_ (Z0e a0)
  clear a0 u0 u2 u8 g0 f0 c0 c2 c8 e0 d0;go_wp2
  go_ret
  exact⟨rfl,b0.out⟩
 subst d2
 have g2:(la==la)=true:=by simp
 rw [g2]
 go_enter Tryz.func77,Tryz.ntmps77
 go_upto_region 1 with (fail)
 refine Z08 (by kernel_rfl) (by kernel_rfl) ?_
 repeat (go_big_quiet_step (first | (go_at_call 60;exact HV.out _) | (go_at_call 128;exact HH.out _)))
 refine wpQuiet_nil ?_
 intro w2 a0
 have b0:=hd_ (Z0e a0)
 clear a0 u0 u2 u8 g0 f0 c0 c2 c8 e0 d0;go_wp2
 go_ret
 exact⟨rfl,b0.out⟩
end
section
open Go.RowKit
def Z16 (id n:Int) (T:Nat):List Int:=(Z33 T).filter fun k=>k != id&&decide (k≤n)
theorem Zal (id n:Int) (T k:Nat) (h:k<(Z33 T).length) :
  ((Z33 T).take (k+1)).filter (fun x=>x != id&&decide (x≤n))=((Z33 T).take k).filter (fun x=>x != id&&decide (x≤n))++if (Z33 T)[k] != id&&decide ((Z33 T)[k]≤n) then [(Z33 T)[k]] else []:=by
 rw [List.take_succ_eq_append_getElem h,List.filter_append]
 congr 1
 rw [List.filter_cons]
 rfl
theorem Zcf (id n:Int) (T k:Nat):((Z33 T).take k).filter (fun x=>x != id&&decide (x≤n)) <+: Z16 id n T:=by
 unfold Z16
 exact List.IsPrefix.filter _ (List.take_prefix k (Z33 T))
theorem Zam {f : FuncId} {fn : Func} (hf : Tryz.prog.funcs[f]? = some fn) (hn : (fn.name == "runtime.NumGoroutine") = false) (hb : fn.body.isNone = false) (args : Array Value) (w : World) : (callFunc f args).run Tryz.prog w = .ok (.enter f args) w := by
 have hn' : ¬ fn.name = "runtime.NumGoroutine" := by simpa using hn
 have hb':¬ fn.body=none:=fun e=>by rw [e] at hb;cases hb
 simp [callFunc,hf,hn',hb']
theorem Z4s (b:Nat) (id n:Int) (T:Nat) (hT:T<128) (fn:FuncId) (pre caps:Array Value) (hfn:∀ args w,(callFunc fn args).run Tryz.prog w=.ok (.enter fn args) w) (I:World→List Int→World→Prop) (w:World)
  (h0:∀ wb,Below w.heap.size w wb→I wb [] wb)
  (hc0:w.cell? ⟨b,0,none⟩=some (.int .i64 id))
  (hrd:∀ wb l w1,I wb l w1→w1.cell? ⟨b,0,none⟩=some (.int .i64 id)∧w1.cell? ⟨b,1,none⟩=some (.int .i64 n))
  (hpub:∀ wb l w1,I wb l w1→∀ c,w.heap.size≤c→c<wb.heap.size→w1.heap[c]?=wb.heap[c]?)
  (hst:∀ wb l k w1,I wb l w1→l++[k] <+: Z16 id n T→Calls Tryz.prog fn (pre.push (.int .i64 k)++caps) w1 fun r w2=>r=.returned (.tuple #[])∧I wb (l++[k]) w2) :
  Calls Tryz.prog 125 #[.pointer (some ⟨b,0,none⟩), .int .i64 (T:Int), .func (.func fn) pre caps] w fun r w'=>r=.returned (.tuple #[])∧∃ wb,Below w.heap.size w wb∧I wb (Z16 id n T) w':=by
 have hl:=Z0f hc0
 replace h0:=hd_ h0;replace hrd:=hd_ hrd;replace hpub:=hd_ hpub;replace hst:=hd_ hst;clear hc0
 go_enter Tryz.func125,Tryz.ntmps125
 go_wp2_with fail
 refine (list_nat T w hT).mono ?_
 rintro r w1 ⟨v,rfl,ho,l0⟩
 have m0:=ho.rd
 obtain⟨ad,cap,rfl,hm,hM,ha⟩:=m0
 have n0:(Z33 T).length≤7:=Z38 T 7
 obtain⟨N,hN⟩:∃ N,(Z33 T).length=N:=⟨_,rfl⟩
 rw [hN] at hm n0
 rw [hN]
 have j0:Hid (0<N→∃ bl off,ad=some ⟨bl,off,none⟩∧w.heap.size≤bl∧bl<w1.heap.size∧∀ j (h:j<(Z33 T).length),w1.cell? ⟨bl,off+j,none⟩=some (.int .i64 (Z33 T)[j])):=hd_ fun h=>by
  obtain⟨bl,off,rfl,hc⟩:=ha (by omega)
  have:=ho.lt bl rfl
  exact⟨bl,off,rfl,this.1,this.2,hc⟩
 clear ha ho
 have hI:=h0.out w1 l0
 replace l0:=hd_ l0;replace hN:=hd_ hN;clear h0;go_wp2
 go_loopw [11] (fun i wr=>∃ k:Nat,k≤N∧i=.int .i64 k∧I w1 (((Z33 T).take k).filter fun x=>x != id&&decide (x≤n)) wr) (fun i _=>N-(intOf i).toNat)
 case atStart=>exact⟨0,Nat.zero_le _,rfl,hI⟩
 case round=>
  obtain⟨k,hk,rfl,d0⟩:=hrel
  by_cases hlt:k<N
  ·obtain⟨bl,off,rfl,i0,k0,hc⟩:=j0.out (by omega)
   have o0:k<(Z33 T).length:=by rw [hN.out];exact hlt
   have p0:=hc k o0
   have q0:wr.cell? ⟨bl,off+k,none⟩=some (.int .i64 (Z33 T)[k]):=by
    rw [← p0]
    exact World.cell?_of_block (w:=w1) (a:=⟨bl,off+k,none⟩) (hpub.out _ _ _ d0 bl i0 k0)
   obtain⟨x0,x1⟩:=hrd.out _ _ _ d0
   have hbw:=Z0f x0
   have r0:=Z0f q0
   have e0:=Zal id n T k o0
   have g0:=Zcf id n T (k+1)
   clear hc p0 j0 i0 k0
   generalize (Z33 T)[k]=x at q0 e0
   replace e0:=hd_ e0;replace g0:=hd_ g0;replace d0:=hd_ d0
   by_cases hid:x=id
   ·have g1:(x==id)=true:=by simpa using hid
    have g2:(x != id)=false:=by simpa using hid
    have hf:(x != id&&decide (x≤n))=false:=by simp [hid]
    have a0:=d0.out
    have c0:=e0.out
    rw [hf] at c0
    simp only [Bool.false_eq_true,if_false,List.append_nil] at c0
    rw [← c0] at a0
    replace a0:=hd_ a0;clear c0 hf e0 g0 d0;subst hid;go_wp2
    go_roundw
    case rel=>exact⟨k+1,by omega,by go_num,a0.out⟩
    case measure=>simp [intOf];omega
   have g1:(x==id)=false:=by simpa using hid
   have g2:(x != id)=true:=by simpa using hid
   by_cases hxn:x≤n
   ·have hf:(x != id&&decide (x≤n))=true:=by simp [hid,hxn]
    have c0:=e0.out
    rw [hf] at c0
    simp only [if_true] at c0
    have f0:=g0.out
    rw [c0] at f0
    have b0:=hst.out _ _ _ _ d0.out f0
    rw [← c0] at b0
    replace b0:=hd_ b0;clear c0 hf e0 g0 d0 f0 hid;go_wp2_with fail
    refine b0.out.mono ?_
    rintro r w2 ⟨rfl,a0⟩;replace a0:=hd_ a0;clear b0;go_wp2
    go_roundw
    case rel=>exact⟨k+1,by omega,by go_num,a0.out⟩
    case measure=>simp [intOf];omega
   ·have hf:(x != id&&decide (x≤n))=false:=by simp [hxn]
    have a0:=d0.out
    have c0:=e0.out
    rw [hf] at c0
    simp only [Bool.false_eq_true,if_false,List.append_nil] at c0
    rw [← c0] at a0
    replace a0:=hd_ a0
    have g3:decide (x≤n)=false:=by simpa using hxn
    clear c0 hf e0 g0 d0 hid;go_wp2
    go_roundw
    case rel=>exact⟨k+1,by omega,by go_num,a0.out⟩
    case measure=>simp [intOf];omega
  ·obtain rfl:k=N:=by omega
   have a0:I w1 (Z16 id n T) wr:=by
    rw [List.take_of_length_le (by rw [hN.out];exact Nat.le_refl _)] at d0
    exact d0
   replace a0:=hd_ a0;clear d0;go_wp2
   go_end0
   exact⟨rfl,w1,l0.out,a0.out⟩
end
section
open Go.RowKit
abbrev JK (K:Nat):Nat→Prop:=fun o=>o=1∨(K≤o∧o≤K+12)
theorem Turn.grow {J:Nat→Prop} {own:Nat→Nat} {w w':World} (h:Below w.heap.size w w') (wf:∀ c,w.heap.size≤c→own c=0):Turn J own own w w':=.same (.of_below h) wf
theorem Turn.pub {J:Nat→Prop} {own own':Nat→Nat} {w w':World} (t:Turn J own own' w w') {c:Nat} {o:Obj} (h:w.heap[c]?=some o) (hc:¬ J (own c)):w'.heap[c]?=some o:=Z0g h t.chg hc
structure At0 (a a':NdAt):Prop where
 b:a'.b=a.b
 dk:a'.dk=a.dk
 od:a'.od=a.od
 cs:a'.cs=a.cs
 T:a'.T=a.T
theorem At0.refl (a:NdAt):At0 a a:=⟨rfl,rfl,rfl,rfl,rfl⟩
theorem At0.trans {a b c:NdAt} (h:At0 a b) (k:At0 b c):At0 a c:=⟨k.b.trans h.b,k.dk.trans h.dk,k.od.trans h.od,k.cs.trans h.cs,k.T.trans h.T⟩
def pubE (own:Nat→Nat) (w:World) (v:Value) (l:List Ent):Prop:=rdE w v l∧(0<l.length→∀ k,v.ownBlock=some k→own k=0)
theorem pubE.new {own:Nat→Nat} {w w':World} {v:Value} {l:List Ent} {E:TypeId} (h:ownE w' w.heap.size E v l) (wf:∀ c,w.heap.size≤c→own c=0):pubE own w' v l:=
 ⟨h.rd,fun _ k hk=>wf k (h.lt k hk).1⟩
theorem pubE.turn {J:Nat→Prop} {own own':Nat→Nat} {w w':World} {v:Value} {l:List Ent} (h:pubE own w v l) (t:Turn J own own' w w') (h0:¬ J 0):pubE own' w' v l:=Z58 t h0 h
section
variable {own:Nat→Nat} {K:Nat} {w:World} {a:NdAt} {s:Nd} {out:List MsS}
theorem NdO.lt (h:NdO own K w a s out):a.b<w.heap.size:=Z04 h.blk
theorem NdO.wf (h:NdO own K w a s out):∀ c,w.heap.size≤c→own c=0:=h.r.wf
theorem NdO.dkne (h:NdO own K w a s out):a.dk≠a.b:=fun e=>by
 have h1:=h.r.odk;have h2:=h.r.ob;have h3:=h.r.k16
 rw [e] at h1;omega
theorem NdO.setD (h:NdO own K w a s out) (u:Int):NdO own K (w.setCell ⟨a.dk,a.od+1,none⟩ (.int .i64 u)) a { s with dv:=u } out∧Turn (fun o=>o=K∨o=1) own own w (w.setCell ⟨a.dk,a.od+1,none⟩ (.int .i64 u)):=by
 have t:Turn (fun o=>o=K∨o=1) own own w (w.setCell ⟨a.dk,a.od+1,none⟩ (.int .i64 u)):=.same (Z06 (Chg.refl _ _) (.inr h.r.odk)) h.wf
 refine⟨⟨Z0u h.blk (fun e=>h.dkne e.symm),h.ears,h.r.putD t ?_⟩,t⟩
 have:=Z0d (o:=a.od+1) (u:=.int .i64 u) h.r.dsk
 rw [this]
 simp
theorem Z7c (h:NdO own K w a s out) (u:Int) (h1:s.dv<u) (h2:u≤1099511627776) :
  Calls Tryz.prog 137 #[.pointer (some ⟨a.dk,a.od,none⟩), .int .i64 u] w fun r w'=>r=.returned (.bool true)∧NdO own K w' a { s with dv:=u } out∧Turn (fun o=>o=K∨o=1) own own w w':=by
 refine (Zaj a.dk a.od s.dv u w h.dv (Z03 h.r.dsk _) h1 h2).mono ?_
 rintro r w' ⟨rfl,rfl⟩
 exact⟨rfl,h.setD u⟩
theorem Zii (h:NdO own K w a s out) :
  Calls Tryz.prog 140 #[Z09 a.f] w fun r w'=>r=.returned (.tuple #[])∧∃ own',NdO own' K w' a { s with pf:=s.pf.drop } out∧Turn (fun o=>o=K∨o=K+7) own own' w w':=by
 refine (Zfq a.f s.pf (Is own (K+7)) w h.r.pf).mono ?_
 rintro r w' ⟨rfl,hp,hc⟩
 have t0:=Turn.ext hc
 have t:=t0.mono (J':=fun o=>o=K∨o=K+7) fun o e=>.inr e
 exact⟨rfl,_,⟨t0.pub h.blk (by rw [h.r.ob];omega),h.ears,h.r.putF t (hp.mono (t.is h.wf (by omega)))⟩,t⟩
end
end
section
open Go.RowKit
def Zij (id n:Int) (f:Nat) (v:Int):Prop:=∃ j:Nat,j≤f∧Z1y (v+j) n=id
theorem Zcg {id n u:Int} (h3:3≤n) (h7:n≤7) (h1:1≤id) (hn:id≤n) (hu:1≤u):Zij id n 7 u:=by
 refine⟨((id-u) % n).toNat,?_,?_⟩
 ·rcases (by omega:n=3∨n=4∨n=5∨n=6∨n=7) with rfl | rfl | rfl | rfl | rfl<;>omega
 ·unfold Z1y
  rcases (by omega:n=3∨n=4∨n=5∨n=6∨n=7) with rfl | rfl | rfl | rfl | rfl
  all_goals rw [if_neg (by omega)]
  all_goals omega
theorem Ze6 {id n:Int} (f:Nat) {v:Int} (h:Z1y v n=id):upV id n f v=v:=by
 cases f with
 | zero=>rfl
 | succ f=>rw [upV,if_pos h]
theorem Ze7 {id n:Int} {f:Nat} {v:Int} (h:Z1y v n≠id) (hr:Zij id n f v):∃ f',f=f'+1∧Zij id n f' (v+1)∧upV id n f v=upV id n f' (v+1):=by
 obtain⟨j,hj,hd⟩:=hr
 cases j with
 | zero=>exact absurd (by simpa using hd) h
 | succ j=>
   cases f with
   | zero=>omega
   | succ f=>exact⟨f,rfl,⟨j,by omega,by rw [← hd];congr 1;omega⟩,by rw [upV,if_neg h]⟩
theorem Zik (id n:Int):∀ (f:Nat) (v:Int),v≤upV id n f v∧upV id n f v≤v+f
 | 0,v=>by simp [upV]
 | f+1,v=>by
   rw [upV]
   split
   ·omega
   ·have:=Zik id n f (v+1);omega
theorem Zil {id n:Int}:∀ (f:Nat) {v:Int},Zij id n f v→Z1y (upV id n f v) n=id
 | f,v,h=>by
   by_cases hd:Z1y v n=id
   ·rw [Ze6 f hd];exact hd
   ·obtain⟨f',rfl,hr,he⟩:=Ze7 hd h
    rw [he]
    exact Zil f' hr
end
end Go.Proofs.YtbonjbokofkafaaGreat
