/- Lemmas of the proof: PkC. -/
import Derived.Test.YtbonjbokofkafaaGreatPkA
import Derived.Test.YtbonjbokofkafaaGreatPkB
import Derived.Deep.DeepCutAuto
import Derived.Deep.RegionHeld3
import Derived.StillTailTactics
import Derived.Deep.RegionLaw
import Derived.Deep.AppendLies
namespace Go.Proofs.YtbonjbokofkafaaGreat
set_option linter.unusedVariables false
set_option maxRecDepth 100000
set_option maxHeartbeats 64000000
section
open Go.RowKit
structure Vt where
 frm:Int
 last:Int
 lg:List Ent
 com:Int
structure VtS where
 v:Vt
 s:Value
instance:Inhabited VtS:=⟨⟨⟨0,0,[],0⟩, .slice none 0 0⟩⟩
abbrev VtS.cells (x:VtS):List Value:=[.int .i64 x.v.frm, .int .i64 x.v.last,x.s, .int .i64 x.v.com]
abbrev Vt.val (x:Vt) (s:Value):Value:=.agg #[.int .i64 x.frm, .int .i64 x.last,s, .int .i64 x.com]
def cVt (w:World) (b o:Nat) (x:VtS):Prop:=
 w.cell? ⟨b,o,none⟩=some (.int .i64 x.v.frm)∧w.cell? ⟨b,o+1,none⟩=some (.int .i64 x.v.last)∧w.cell? ⟨b,o+2,none⟩=some x.s∧w.cell? ⟨b,o+3,none⟩=some (.int .i64 x.v.com)∧rdE w x.s x.v.lg
theorem cVt.lt {w:World} {b o:Nat} {x:VtS} (h:cVt w b o x):b<w.heap.size:=Z0f h.1
theorem cVt.grow (w w':World) (b o:Nat) (x:VtS) (h:cVt w b o x) (hb:Below w.heap.size w w'):cVt w' b o x:=by
 have hlt:=h.lt
 obtain⟨h1,h2,h3,h4,h5⟩:=h
 have k:∀ o,w'.cell? ⟨b,o,none⟩=w.cell? ⟨b,o,none⟩:=fun o=>hb.cell hlt
 exact⟨by rw [k];exact h1,by rw [k];exact h2,by rw [k];exact h3,by rw [k];exact h4,h5.grow hb⟩
def Z90 (l:List VtS):List Value:=l.flatMap VtS.cells
theorem Zho (l:List VtS) (j:Nat) (h:j<l.length) (c:Nat) (hc:c<4):(Z90 l)[j*4+c]?=(l[j].cells)[c]?:=by
 induction l generalizing j with
 | nil=>simp at h
 | cons x l ih=>
   unfold Z90 at ih ⊢
   rw [List.flatMap_cons]
   cases j with
   | zero=>rw [Nat.zero_mul,Nat.zero_add,List.getElem?_append_left (by simpa using hc)];rfl
   | succ j=>
     rw [List.getElem?_append_right (by simp;omega),show (j+1)*4+c-x.cells.length=j*4+c by simp;omega,ih j (by simpa using h)]
     rfl
theorem Zfb (l:List VtS) (x:VtS):Z90 (l++[x])=Z90 l++x.cells:=by
 unfold Z90;rw [List.flatMap_append];simp
def rdVs (w:World) (b:Nat) (view n:Int) (l:List VtS):Prop:=
 w.cell? ⟨b,0,none⟩=some (.int .i64 view)∧w.cell? ⟨b,1,none⟩=some (.int .i64 n)∧∃ v,w.cell? ⟨b,2,none⟩=some v∧rdS 4 cVt w v l
theorem rdVs.lt {w:World} {b:Nat} {view n:Int} {l:List VtS} (h:rdVs w b view n l):b<w.heap.size:=Z0f h.1
theorem rdVs.grow {w w':World} {b:Nat} {view n:Int} {l:List VtS} (h:rdVs w b view n l) (hb:Below w.heap.size w w'):rdVs w' b view n l:=by
 have hlt:=h.lt
 obtain⟨h1,h2,v,h3,h4⟩:=h
 have k:∀ o,w'.cell? ⟨b,o,none⟩=w.cell? ⟨b,o,none⟩:=fun o=>hb.cell hlt
 exact⟨by rw [k];exact h1,by rw [k];exact h2,v,by rw [k];exact h3,h4.grow cVt.grow hb⟩
def vtO (T TV:TypeId) (w:World) (F D:Nat→Prop) (b:Nat) (view n:Int) (l:List VtS):Prop:=
 F b∧(∀ k,F k→¬ D k)∧∃ v,w.heap[b]?=some (.cells #[.int .i64 view, .int .i64 n,v] T (0,0))∧w.ownsRow 0 TV 4 v l.length (Z90 l)∧(∀ k,v.ownBlock=some k→F k)∧∀ x ∈ l,rdE w x.s x.v.lg∧∀ k,x.s.ownBlock=some k→D k
theorem cVt_row {w:World} {TV:TypeId} {g:Nat} {cur:Array Value} {l:List VtS} (hg:w.heap[g]?=some (.cells cur TV (0,0))) (ht:cur.toList.take (l.length*4)=Z90 l)
  (hr:∀ x ∈ l,rdE w x.s x.v.lg) (j:Nat) (hj:j<l.length):cVt w g (0+j*4) l[j]:=by
 have a0:∀ c u,c<4→(l[j].cells)[c]?=some u→w.cell? ⟨g,0+j*4+c,none⟩=some u:=by
  intro c u hc hu
  have h1:(cur.toList.take (l.length*4))[j*4+c]?=some u:=by rw [ht,Zho l j hj c hc];exact hu
  rw [List.getElem?_take] at h1
  split at h1
  ·simp [World.cell?,hg] at h1 ⊢
   simpa using h1
  ·cases h1
 exact⟨a0 0 _ (by omega) rfl,a0 1 _ (by omega) rfl,a0 2 _ (by omega) rfl,a0 3 _ (by omega) rfl,hr _ (List.getElem_mem hj)⟩
theorem vtO.rd {T TV:TypeId} {w:World} {F D:Nat→Prop} {b:Nat} {view n:Int} {l:List VtS} (h:vtO T TV w F D b view n l):rdVs w b view n l:=by
 obtain⟨_,_,v,hb,ho,_,hr⟩:=h
 refine⟨by simp [World.cell?,hb],by simp [World.cell?,hb],v,by simp [World.cell?,hb],?_⟩
 obtain⟨hl,⟨rfl,h0⟩ | ⟨g,a0,cur,rfl,hbb,hg,hn,hc,hs,ht⟩⟩:=ho
 ·exact⟨none,0,by rw [h0],by rw [h0];exact Nat.zero_le _,Nat.zero_le _,fun h=>by omega⟩
 ·exact⟨some ⟨g,0,none⟩,a0,rfl,hn,hc,fun _=>⟨g,0,rfl,fun j hj=>cVt_row hg ht (fun x hx=>(hr x hx).1) j hj⟩⟩
theorem vtO.grow {T TV:TypeId} {w w':World} {F D:Nat→Prop} {b:Nat} {view n:Int} {l:List VtS} (h:vtO T TV w F D b view n l) (hb:Below w.heap.size w w'):vtO T TV w' F D b view n l:=by
 obtain⟨h1,h2,v,h3,h4,h5,h6⟩:=h
 refine⟨h1,h2,v,by rw [hb.block b (Z2i h3)];exact h3,?_,h5,fun x hx=>⟨(h6 x hx).1.grow hb,(h6 x hx).2⟩⟩
 obtain⟨a1,a2⟩:=h4
 refine⟨a1,a2.imp id ?_⟩
 rintro⟨g,b0,a0,e1,e2,e3,e4⟩
 exact⟨g,b0,a0,e1,e2,by rw [hb.block g (Z2i e3)];exact e3,e4⟩
theorem vtO.chg {T TV:TypeId} {w w':World} {F D G:Nat→Prop} {b:Nat} {view n:Int} {l:List VtS} (h:vtO T TV w F D b view n l) (hc:Chg G w w') (hF:∀ k,F k→¬ G k) (hD:∀ k,D k→¬ G k):vtO T TV w' F D b view n l:=by
 obtain⟨h1,h2,v,h3,h4,h5,h6⟩:=h
 refine⟨h1,h2,v,by rw [hc.block b (Z2i h3) (hF b h1)];exact h3,?_,h5,fun x hx=>⟨(h6 x hx).1.chg hc fun k hk=>hD k ((h6 x hx).2 k hk),(h6 x hx).2⟩⟩
 obtain⟨a1,a2⟩:=h4
 refine⟨a1,a2.imp id ?_⟩
 rintro⟨g,b0,a0,e1,e2,e3,e4⟩
 exact⟨g,b0,a0,e1,e2,by rw [hc.block g (Z2i e3) (hF g (h5 g (by rw [e1];rfl)))];exact e3,e4⟩
def Z0v (l:List VtS):Nat:=(l.map fun x=>x.v.frm).foldl Z37 0
theorem Z31 (l:List VtS):Z0v l<128:=foldl_lt _ 0 (by omega)
theorem Z8b (l:List VtS) (x:VtS):Z0v (l++[x])=Z37 (Z0v l) x.v.frm:=by unfold Z0v;rw [List.map_append,List.foldl_append];rfl
theorem Zfc (l:List VtS) (k:Nat) (h:k<l.length):Z0v (l.take (k+1))=Z37 (Z0v (l.take k)) l[k].v.frm:=by
 rw [List.take_succ_eq_append_getElem h,Z8b]
def Z72 (a b:Vt):Bool:=if a.last != b.last then decide (b.last<a.last) else if a.lg.length != b.lg.length then decide (b.lg.length<a.lg.length) else decide (a.frm<b.frm)
def okV (view n:Int) (l:List VtS) (x:Vt):Bool:=
 decide (1≤x.frm)&&decide (x.frm≤n) && !Z18 (Z0v l) x.frm&&decide (0≤x.last)&&decide (x.last<view)&&decide ((Z2y x.lg).length=x.lg.length)&&decide (0≤x.com)&&decide (x.com≤(x.lg.length:Int))
def Z1k (b:VtS) (l:List VtS):VtS:=l.foldl (fun b x=>if Z72 x.v b.v then x else b) b
def Z52 (l:List VtS):Int:=l.foldl (fun c x=>max c x.v.com) 0
theorem Zc7 (b:VtS) (l:List VtS) (k:Nat) (h:k<l.length):Z1k b (l.take (k+1))=if Z72 l[k].v (Z1k b (l.take k)).v then l[k] else Z1k b (l.take k):=by
 unfold Z1k;rw [List.take_succ_eq_append_getElem h,List.foldl_append];rfl
theorem Zfd (l:List VtS) (k:Nat) (h:k<l.length):Z52 (l.take (k+1))=max (Z52 (l.take k)) l[k].v.com:=by
 unfold Z52;rw [List.take_succ_eq_append_getElem h,List.foldl_append];rfl
theorem Z8c (b:VtS) (l:List VtS) (P:VtS→Prop) (hb:P b) (hl:∀ x ∈ l,P x):P (Z1k b l):=by
 induction l generalizing b with
 | nil=>exact hb
 | cons x l ih=>
   unfold Z1k at ih ⊢
   rw [List.foldl_cons]
   refine ih _ ?_ fun y hy=>hl y (List.mem_cons_of_mem _ hy)
   split
   ·exact hl x List.mem_cons_self
   ·exact hb
end
section
open Go.RowKit
theorem Z53 (b:Nat) (view n:Int) (l:List VtS) (w:World) (hr:rdVs w b view n l) :
  Calls Tryz.prog 71 #[.pointer (some ⟨b,0,none⟩)] w fun r w'=>r=.returned (.int .i64 view)∧w=w':=by
 obtain⟨h1,_⟩:=hr
 go_enter Tryz.func71,Tryz.ntmps71
 go_wp2
 go_ret
 exact⟨rfl,rfl⟩
theorem Z54 (b:Nat) (view n:Int) (l:List VtS) (w:World) (hr:rdVs w b view n l) :
  Calls Tryz.prog 127 #[.pointer (some ⟨b,0,none⟩)] w fun r w'=>r=.returned (.int .i64 (Z0v l))∧Below w.heap.size w w':=by
 obtain⟨_,_,v,hv,hs⟩:=hr
 obtain⟨a,cap,rfl,hm,hM,ha⟩:=hs
 unfold maxLen at hM
 replace ha:=hd_ ha
 go_enter Tryz.func127,Tryz.ntmps127
 go_wp2
 go_loopw [3,13] (fun t i wr=>∃ k:Nat,k≤l.length∧i=.int .i64 k∧t=.int .i64 (Z0v (l.take k))∧Below w.heap.size w wr) (fun _ i _=>l.length-(intOf i).toNat)
 case atStart=>exact⟨0,Nat.zero_le _,rfl,rfl,Below.refl _ _⟩
 case round=>
  obtain⟨k,hk,rfl,rfl,b0⟩:=hrel
  have hT:=Z31 (l.take k)
  by_cases hlt:k<l.length
  ·obtain⟨g,off,rfl,hc⟩:=ha.out (by omega)
   have e0:=cVt.grow _ _ _ _ _ (hc k hlt) b0
   have d0:=hd_ (Zfc l k hlt)
   clear hc
   generalize l[k]=x at e0 d0
   obtain⟨⟨frm,f0,lg,com⟩,s⟩:=x
   obtain⟨c0,c1,c2,c3,c4⟩:=e0
   dsimp only at c0 c1 c2 c3 c4 d0
   obtain⟨sa,sc,rfl⟩:=c4.len
   clear c4
   generalize Z0v (l.take k)=T at hT d0 ⊢
   have a0:=fun o=>b0.alloc b0.size o
   replace a0:=hd_ a0;clear b0
   go_wp2_with (go_at_call 179;refine (Zdu _ _ _ (by assumption)).mono ?_;rintro e w' ⟨rfl,rfl⟩)
   go_roundw
   case rel=>exact⟨k+1,by omega,by go_num,by rw [d0.out],a0.out _⟩
   case measure=>simp [intOf];omega
  ·obtain rfl:k=l.length:=by omega
   rw [List.take_length]
   go_wp2
   go_ret
   exact⟨rfl,b0⟩
theorem Z73 (b:Nat) (view n:Int) (l:List VtS) (w:World) (hr:rdVs w b view n l) :
  Calls Tryz.prog 123 #[.pointer (some ⟨b,0,none⟩)] w fun r w'=>r=.returned (.bool (Z2x (Z0v l) n))∧Below w.heap.size w w':=by
 have c0:=hd_ hr
 obtain⟨_,h1,_⟩:=hr
 have h1u:=Z07 h1
 have HT:Hid (∀ x,Calls Tryz.prog 127 #[.pointer (some ⟨b,0,none⟩)] (Z1c w x) fun r w'=>r=.returned (.int .i64 (Z0v l))∧∃ y,w'=Z1c w y):=hd_ fun x=>Z5l (Z54 b view n l _ (c0.out.grow (Z0s w x)))
 have HM:Hid (∀ x,Calls Tryz.prog 174 #[.int .i64 (Z0v l), .int .i64 n] (Z1c w x) fun r w'=>r=.returned (.bool (Z2x (Z0v l) n))∧∃ y,w'=Z1c w y):=hd_ fun x=>Z0o (Z4x _ _ _)
 clear h1
 go_enter Tryz.func123,Tryz.ntmps123
 go_upto_region 1 with (fail)
 refine Z08 (by kernel_rfl) (by kernel_rfl) ?_
 repeat (go_big_quiet_step ((first | (go_at_call 127;exact HT.out _) | (go_at_call 174;exact HM.out _))))
 refine wpQuiet_nil ?_
 intro w2 a0
 have b0:=Z0e a0
 clear a0;go_wp2
 go_ret
 exact⟨rfl,b0⟩
theorem Zc8 (x y:Vt) (s1 s2:Value) (w:World) (hx:rdE w s1 x.lg) (hy:rdE w s2 y.lg) :
  Calls Tryz.prog 208 #[x.val s1,y.val s2] w fun r w'=>r=.returned (.bool (Z72 x y))∧Below w.heap.size w w':=by
 obtain⟨f1,l1,g1,c1⟩:=x
 obtain⟨f2,l2,g2,c2⟩:=y
 dsimp only at hx hy
 obtain⟨a1,a0,rfl⟩:=hx.len
 obtain⟨a2,b0,rfl⟩:=hy.len
 clear hx hy
 simp only [Vt.val,Z72]
 have hB:∀ o p,Below w.heap.size w ((w.alloc o).alloc p):=fun o p=>((Below.refl _ _).alloc (Nat.le_refl _) _).alloc (by simp) _
 replace hB:=hd_ hB
 by_cases h1:l1=l2
 ·subst h1
  by_cases h2:g1.length=g2.length
  ·go_enter Tryz.func208,Tryz.ntmps208
   rw [h2]
   go_wp2
   go_ret
   exact⟨Z0b (by simp),hB.out _ _⟩
  ·have d:(g1.length==g2.length)=false:=by simpa using h2
   go_enter Tryz.func208,Tryz.ntmps208
   go_wp2
   go_ret
   exact⟨Z0b (by simp),hB.out _ _⟩
 ·have d:(l1==l2)=false:=by simpa using h1
  go_enter Tryz.func208,Tryz.ntmps208
  go_wp2
  go_ret
  exact⟨Z0b (by simp),hB.out _ _⟩
end
section
open Go.RowKit
abbrev boxV (f l:Int) (s:Value) (c:Int) (T:TypeId):Obj:=.cells #[.int .i64 f, .int .i64 l,s, .int .i64 c] T
structure BestAt (w wr:World) (T:TypeId) (b2 b4:Nat) (y:VtS):Prop where
 res:wr.heap[b2]?=some (.cells #[.int .i64 0, .int .i64 0, .slice none 0 0, .int .i64 0] T (0,0))
 best:wr.heap[b4]?=some (.cells #[.int .i64 y.v.frm, .int .i64 y.v.last,y.s, .int .i64 y.v.com] T (0,0))
 bel:Below w.heap.size w wr
theorem BestAt.grow {w wr w':World} {T:TypeId} {b2 b4:Nat} {y:VtS} (h:BestAt w wr T b2 b4 y) (hb:Below wr.heap.size wr w'):BestAt w w' T b2 b4 y:=
 ⟨Z02 h.res hb,Z02 h.best hb,h.bel.trans (hb.mono h.bel.size)⟩
theorem set4 {w:World} {g:Nat} {a b c d:Value} {E:TypeId} (h:w.heap[g]?=some (.cells #[a,b,c,d] E (0,0))) (p q r s:Value) :
  ((((w.setCell ⟨g,0,none⟩ p).setCell ⟨g,1,none⟩ q).setCell ⟨g,2,none⟩ r).setCell ⟨g,3,none⟩ s).heap[g]?=some (.cells #[p,q,r,s] E (0,0)):=by
 have h1:=Z0d (o:=0) (u:=p) h
 have h2:=Z0d (o:=1) (u:=q) h1
 have h3:=Z0d (o:=2) (u:=r) h2
 have h4:=Z0d (o:=3) (u:=s) h3
 exact h4
theorem BestAt.put {w wr:World} {T:TypeId} {b2 b4:Nat} {y:VtS} (h:BestAt w wr T b2 b4 y) (hne:b2≠b4) (hge:w.heap.size≤b4) (x:VtS) :
  BestAt w ((((wr.setCell ⟨b4,0,none⟩ (.int .i64 x.v.frm)).setCell ⟨b4,1,none⟩ (.int .i64 x.v.last)).setCell ⟨b4,2,none⟩ x.s).setCell ⟨b4,3,none⟩ (.int .i64 x.v.com)) T b2 b4 x:=
 ⟨Z0u (Z0u (Z0u (Z0u h.res hne) hne) hne) hne,set4 h.best _ _ _ _,(((h.bel.setCell hge _).setCell hge _).setCell hge _).setCell hge _⟩
theorem Zhp (b:Nat) (view n:Int) (l:List VtS) (y0 y':VtS) (cm':Int) (w:World) (hr:rdVs w b view n l) (hm:Z2x (Z0v l) n=true) (hl0:0<l.length) (hl:∀ x ∈ l,x.v.lg.length≤60)
  (hy0:y0=l[0]) (hy:Z1k y0 l=y') (hcmt:Z52 l=cm') :
  Calls Tryz.prog 175 #[.pointer (some ⟨b,0,none⟩)] w fun r w'=>∃ s',r=.returned (.tuple #[.agg #[.int .i64 y'.v.frm, .int .i64 y'.v.last,s', .int .i64 (min cm' (y'.v.lg.length:Int))], .bool true]) ∧
   ownE w' w.heap.size 134 s' y'.v.lg∧Below w.heap.size w w':=by
 replace hy:=hd_ hy;replace hcmt:=hd_ hcmt
 have a1:Below w.heap.size w (w.alloc (boxV 0 0 (.slice none 0 0) 0 184)):=(Below.refl _ _).alloc (Nat.le_refl _) _
 have l2:=hd_ (hr.grow a1)
 have n1:=Z0a w (boxV 0 0 (.slice none 0 0) 0 184)
 obtain⟨_,_,v,hv,hs⟩:=hr
 obtain⟨a,cap,rfl,hcm,hM,ha⟩:=hs
 unfold maxLen at hM
 obtain⟨g,off,rfl,hc⟩:=ha hl0
 clear ha
 have p0:∀ x ∈ l,rdE w x.s x.v.lg:=fun x hx=>by
  obtain⟨j,hj,rfl⟩:=List.getElem_of_mem hx
  exact (hc j hj).2.2.2.2
 have l0:∀ k,rdE w (Z1k y0 (l.take k)).s (Z1k y0 (l.take k)).v.lg∧(Z1k y0 (l.take k)).v.lg.length≤60:=fun k=>
  Z8c y0 (l.take k) (fun x=>rdE w x.s x.v.lg∧x.v.lg.length≤60) (by rw [hy0];exact⟨p0 _ (List.getElem_mem hl0),hl _ (List.getElem_mem hl0)⟩) fun x hx=>⟨p0 x (List.mem_of_mem_take hx),hl x (List.mem_of_mem_take hx)⟩
 have l1:=hc 0 hl0
 rw [Nat.zero_mul,Nat.add_zero,← hy0] at l1
 have k1:=Z0f hv
 have i2:=l1.lt
 replace l1:=hd_ l1;replace hc:=hd_ hc;replace p0:=hd_ p0;replace l0:=hd_ l0;replace hv:=hd_ hv;replace hy0:=hd_ hy0;replace hm:=hd_ hm;replace hl:=hd_ hl;replace n1:=hd_ n1;replace a1:=hd_ a1
 go_enter Tryz.func175,Tryz.ntmps175
 go_wp2_with fail
 refine (Z73 b view n l _ l2.out).mono ?_
 rintro r w2 ⟨rfl,u0⟩
 rw [hm.out]
 have a2:=hd_ (Z02 n1.out u0)
 have x0:=hd_ (a1.out.trans (u0.mono a1.out.size))
 clear u0 n1 a1 l2
 have n2:=x0.out.cell (p:=⟨b,2,none⟩) k1
 rw [hv.out] at n2
 obtain⟨c0,c1,c2,c3,c4⟩:=cVt.grow _ _ _ _ _ l1.out x0.out
 obtain⟨sa,sc,s1⟩:=c4.len
 clear c4
 rw [s1] at c2
 replace s1:=hd_ s1
 have p2:b<w2.heap.size:=Nat.lt_of_lt_of_le k1 x0.out.size
 have j2:g<w2.heap.size:=Nat.lt_of_lt_of_le i2 x0.out.size
 have m2:=x0.out.size
 obtain⟨b2,u0⟩:∃ b2,b2=w.heap.size:=⟨_,rfl⟩
 rw [← u0] at a2 ⊢
 replace u0:=hd_ u0
 have u1:BestAt w (w2.alloc (boxV y0.v.frm y0.v.last (.slice sa y0.v.lg.length sc) y0.v.com 184)) 184 b2 w2.heap.size y0:=⟨Z4l _ a2.out,by rw [s1.out];exact Z0a _ _,x0.out.alloc m2 _⟩
 have hb4:b2<w2.heap.size:=Z04 a2.out
 replace u1:=hd_ u1;go_wp2;clear c0 c1 c2 c3 n2
 go_loopw [5,23] (fun c i wr=>∃ k:Nat,k≤l.length∧i=.int .i64 k∧c=.int .i64 (Z52 (l.take k))∧BestAt w wr 184 b2 w2.heap.size (Z1k y0 (l.take k))) (fun _ i _=>l.length-(intOf i).toNat)
 case atStart=>exact⟨0,Nat.zero_le _,rfl,rfl,u1.out⟩
 case round=>
  obtain⟨k,hk,rfl,rfl,g0⟩:=hrel
  clear u1
  have i0:=g0.bel
  have x1:b2≠w2.heap.size:=by omega
  obtain⟨v0,g1⟩:=l0.out k
  by_cases hlt:k<l.length
  ·have s2:=cVt.grow _ _ _ _ _ (hc.out k hlt) i0
   have n0:=hd_ (Zc7 y0 l k hlt)
   have b1:=hd_ (Zfd l k hlt)
   generalize l[k]=x at s2 n0 b1
   generalize Z1k y0 (l.take k)=y at g0 v0 g1 n0
   generalize Z52 (l.take k)=cm at b1 ⊢
   have h0:=v0.grow i0
   obtain⟨d0,d1,d2,d3,d4⟩:=s2
   obtain⟨sx,cx,h1⟩:=d4.len
   obtain⟨sy,cy,m0⟩:=v0.len
   have e0:=Z00 g0.best 0
   have e1:=Z00 g0.best 1
   have e2:=Z00 g0.best 2
   have e3:=Z00 g0.best 3
   simp only [List.getElem?_toArray,List.getElem?_cons_zero,List.getElem?_cons_succ] at e0 e1 e2 e3
   rw [h1] at d2
   rw [m0] at e2
   have g2:=Z04 g0.best
   have y2:¬ w2.heap.size=wr.heap.size:=by omega
   have hgr:¬ g=wr.heap.size:=by have:=Z0f d0;omega
   have p1:Below wr.heap.size wr (wr.alloc (boxV x.v.frm x.v.last (.slice sx x.v.lg.length cx) x.v.com 184)):=(Below.refl _ _).alloc (Nat.le_refl _) _
   have i1:=d4.grow p1
   have m1:=h0.grow p1
   have s0:=g0.grow p1
   have o1:=Z0a wr (boxV x.v.frm x.v.last (.slice sx x.v.lg.length cx) x.v.com 184)
   rw [h1] at i1
   rw [m0] at m1
   clear v0 h0 i0 d4 p1;replace i1:=hd_ i1;replace m1:=hd_ m1;replace s0:=hd_ s0;replace g0:=hd_ g0;replace o1:=hd_ o1;replace h1:=hd_ h1;replace m0:=hd_ m0;go_wp2_with fail
   refine (Zc8 x.v y.v _ _ _ i1.out m1.out).mono ?_
   rintro r w6 ⟨rfl,v1⟩
   have b0:=s0.out.grow v1
   have w0:=Z02 o1.out v1
   have f0:=Z00 w0 0
   have f1:=Z00 w0 1
   have f2:=Z00 w0 2
   have f3:=Z00 w0 3
   simp only [List.getElem?_toArray,List.getElem?_cons_zero,List.getElem?_cons_succ] at f0 f1 f2 f3
   have v2:w.heap.size≤w2.heap.size:=m2
   have k0:=b0.put x1 v2 x
   rw [h1.out] at k0
   have h60:=v1.size
   have hz6:wr.heap.size<w6.heap.size:=Z04 w0
   clear e0 e1 e2 e3 d0 d1 d2 d3 i1 m1 s0 o1 g0 v1
   have e0:=Z00 b0.best 0
   have e1:=Z00 b0.best 1
   have e2:=Z00 b0.best 2
   have e3:=Z00 b0.best 3
   simp only [List.getElem?_toArray,List.getElem?_cons_zero,List.getElem?_cons_succ] at e0 e1 e2 e3
   have z0:=Z03 b0.best 0
   have z1:=Z03 b0.best 1
   have z2:=Z03 b0.best 2
   have z3:=Z03 b0.best 3
   have x2:¬ wr.heap.size=w2.heap.size:=by omega
   rw [m0.out] at e2
   replace b0:=hd_ b0;replace k0:=hd_ k0;replace w0:=hd_ w0
   by_cases hmx:cm≤x.v.com
   all_goals cases hbt:Z72 x.v y.v
   ·rw [hbt,if_neg Bool.false_ne_true] at n0
    go_wp2
    go_roundw
    case rel=>exact⟨k+1,by omega,by go_num,by rw [b1.out];congr 1;omega,by rw [n0.out];exact b0.out⟩
    case measure=>simp [intOf];omega
   ·rw [hbt,if_pos rfl] at n0
    go_wp2
    go_roundw
    case rel=>exact⟨k+1,by omega,by go_num,by rw [b1.out];congr 1;omega,by rw [n0.out];exact k0.out⟩
    case measure=>simp [intOf];omega
   ·rw [hbt,if_neg Bool.false_ne_true] at n0
    go_wp2
    go_roundw
    case rel=>exact⟨k+1,by omega,by go_num,by rw [b1.out];congr 1;omega,by rw [n0.out];exact b0.out⟩
    case measure=>simp [intOf];omega
   ·rw [hbt,if_pos rfl] at n0
    go_wp2
    go_roundw
    case rel=>exact⟨k+1,by omega,by go_num,by rw [b1.out];congr 1;omega,by rw [n0.out];exact k0.out⟩
    case measure=>simp [intOf];omega
  ·obtain rfl:k=l.length:=by omega
   rw [List.take_length,hy.out] at g0 v0 g1
   rw [List.take_length,hcmt.out]
   clear hy hcmt
   obtain⟨sy,cy,m0⟩:=v0.len
   have h0:=v0.grow i0
   rw [m0] at h0
   have e2:=Z00 g0.best 2
   simp only [List.getElem?_toArray,List.getElem?_cons_zero,List.getElem?_cons_succ] at e2
   rw [m0] at e2
   have g2:=Z04 g0.best
   replace g0:=hd_ g0;replace h0:=hd_ h0;replace i0:=hd_ i0;clear v0;replace m0:=hd_ m0;go_wp2_with fail
   refine (Z2m _ y'.v.lg _ h0.out (by omega)).mono ?_
   rintro r w8 ⟨s',rfl,j1,w1⟩
   obtain⟨y1,h2,rfl⟩:=j1.rd.len
   have a0:=g0.out.grow w1
   have q0:=Z00 a0.best 0
   have q1:=Z00 a0.best 1
   have q2:=Z00 a0.best 2
   have q3:=Z00 a0.best 3
   have z2:=Z03 a0.best 2
   have z3:=Z03 a0.best 3
   have r0:=Z00 a0.res 0
   have r1:=Z00 a0.res 1
   have r2:=Z00 a0.res 2
   have r3:=Z00 a0.res 3
   have t0:=Z03 a0.res 0
   have t1:=Z03 a0.res 1
   have t2:=Z03 a0.res 2
   have t3:=Z03 a0.res 3
   simp only [List.getElem?_toArray,List.getElem?_cons_zero,List.getElem?_cons_succ] at q0 q1 q2 q3 r0 r1 r2 r3
   rw [m0.out] at q2
   have hl8:=Z04 a0.best
   have hl9:=Z04 a0.res
   have o2:¬ w2.heap.size=b2:=by omega
   have k2:¬ b2=w2.heap.size:=by omega
   have u2:b2≤w2.heap.size:=by omega
   have o0:∀ a b c d e f,ownE ((((((w8.setCell ⟨w2.heap.size,2,none⟩ a).setCell ⟨w2.heap.size,3,none⟩ b).setCell ⟨b2,0,none⟩ c).setCell ⟨b2,1,none⟩ d).setCell ⟨b2,2,none⟩ e).setCell ⟨b2,3,none⟩ f) w.heap.size 134 (.slice y1 y'.v.lg.length h2) y'.v.lg ∧
     Below w.heap.size w ((((((w8.setCell ⟨w2.heap.size,2,none⟩ a).setCell ⟨w2.heap.size,3,none⟩ b).setCell ⟨b2,0,none⟩ c).setCell ⟨b2,1,none⟩ d).setCell ⟨b2,2,none⟩ e).setCell ⟨b2,3,none⟩ f):=by
    intro a b c d e f
    have hF:Chg (fun k=>k=w2.heap.size∨k=b2) w8 ((((((w8.setCell ⟨w2.heap.size,2,none⟩ a).setCell ⟨w2.heap.size,3,none⟩ b).setCell ⟨b2,0,none⟩ c).setCell ⟨b2,1,none⟩ d).setCell ⟨b2,2,none⟩ e).setCell ⟨b2,3,none⟩ f):=
     Z06 (Z06 (Z06 (Z06 (Z06 (Z06 (Chg.refl _ _) (.inl rfl)) (.inl rfl)) (.inr rfl)) (.inr rfl)) (.inr rfl)) (.inr rfl)
    refine⟨Z71 (j1.chg hF fun k hk=>?_) i0.out.size,a0.bel.trans (hF.below a0.bel.size fun k hk=>?_)⟩
    ·have:=(j1.lt k hk).1
     rintro (rfl | rfl)<;>omega
    ·have:=u0.out
     rcases hk with rfl | rfl<;>omega
   clear e2;replace o0:=hd_ o0;replace a0:=hd_ a0;replace j1:=hd_ j1;replace w1:=hd_ w1
   by_cases hmn:cm'≤(y'.v.lg.length:Int)
   ·have j0:min cm' (y'.v.lg.length:Int)=cm':=by omega
    replace j0:=hd_ j0;go_wp2
    exact bodyPost_ret (v:=.tuple #[.agg #[.int .i64 y'.v.frm, .int .i64 y'.v.last, .slice y1 y'.v.lg.length h2, .int .i64 cm'], .bool true]) (by simp [results,Tryz.results175,go_sem,r0,r1,r2,r3]) rfl ⟨_,by rw [j0.out],o0.out _ _ _ _ _ _⟩
   ·have j0:min cm' (y'.v.lg.length:Int)=y'.v.lg.length:=by omega
    replace j0:=hd_ j0;go_wp2
    exact bodyPost_ret (v:=.tuple #[.agg #[.int .i64 y'.v.frm, .int .i64 y'.v.last, .slice y1 y'.v.lg.length h2, .int .i64 (y'.v.lg.length:Int)], .bool true]) (by simp [results,Tryz.results175,go_sem,r0,r1,r2,r3]) rfl ⟨_,by rw [j0.out],o0.out _ _ _ _ _ _⟩
end
section
open Go.RowKit
theorem vt_close {T TV:TypeId} {w w4 w5:World} {F D:Nat→Prop} {b gg n' cap1:Nat} {view n:Int} {l:List VtS} {x:Vt} {v s':Value} {X:Obj}
  (hlt:∀ k,F k∨D k→k<w.heap.size) (hB4:Below w.heap.size w w4) (hFb:F b) (hFD:∀ k,F k→¬ D k)
  (hvb:w4.heap[b]?=some (.cells #[.int .i64 view, .int .i64 n,v] T (0,0))) (hvF:∀ k,v.ownBlock=some k→F k) (hvn:v.ownBlock≠some b)
  (hlog:∀ y ∈ l,rdE w4 y.s y.v.lg∧∀ k,y.s.ownBlock=some k→D k) (hs:rdE w4 s' x.lg) (hsk:∀ k,s'.ownBlock=some k→¬ F k∧k<w4.heap.size)
  (hn:n'=(l++[(⟨x,s'⟩:VtS)]).length) (hown:w5.ownsRow 0 TV 4 (.slice (some ⟨gg,0,none⟩) n' cap1) n' (Z90 (l++[⟨x,s'⟩])))
  (hgrow:(w4.alloc X).drew.grownBy w5 v.ownBlock) (hat:v.ownBlock=some gg∨gg=w4.heap.size+1) (hlt5:gg<w5.heap.size) :
  vtO T TV (w5.setCell ⟨b,2,none⟩ (.slice (some ⟨gg,0,none⟩) n' cap1)) (fun k=>F k∨k=gg) (fun k=>D k∨s'.ownBlock=some k) b view n (l++[⟨x,s'⟩]) ∧
   (∀ k,F k∨k=gg→F k∨(w.heap.size≤k∧k<(w5.setCell ⟨b,2,none⟩ (.slice (some ⟨gg,0,none⟩) n' cap1)).heap.size)) ∧
   Chg F w (w5.setCell ⟨b,2,none⟩ (.slice (some ⟨gg,0,none⟩) n' cap1)):=by
 have c0:(w5.setCell ⟨b,2,none⟩ (.slice (some ⟨gg,0,none⟩) n' cap1)).heap.size=w5.heap.size:=World.size_setCell _ _ _
 have h4:w4.heap.size+1≤w5.heap.size:=by have:=hgrow.size;simpa using this
 have h04:=hB4.size
 have hbw:=hlt b (.inl hFb)
 have b0:∀ k,k<w4.heap.size→some k≠v.ownBlock→w5.heap[k]?=w4.heap[k]?:=fun k hk hne=>by
  rw [hgrow.block k (by simp;omega) hne]
  exact Below.heap_alloc w4 X k hk
 have d0:w5.heap[b]?=some (.cells #[.int .i64 view, .int .i64 n,v] T (0,0)):=by rw [b0 b (by omega) (Ne.symm hvn)];exact hvb
 have e0:gg≠b:=by
  rintro rfl
  rcases hat with h | h
  ·exact hvn h
  ·omega
 have a0:Chg F w4 (w5.setCell ⟨b,2,none⟩ (.slice (some ⟨gg,0,none⟩) n' cap1)):=by
  refine⟨hgrow.os,hgrow.tape,hgrow.output,by rw [c0];omega,fun k hk hF=>?_⟩
  rw [Below.heap_setCell _ _ _ _ (fun e=>hF (by rw [show k=b from e];exact hFb)),b0 k hk (fun e=>hF (hvF k e.symm))]
 subst hn
 refine⟨⟨.inl hFb,?_,_,Z0d d0,ownsRow_setCell_other hown (by intro hk;injection hk with hk;exact e0 hk) _,?_,?_⟩,?_,?_⟩
 ·rintro k (hk | rfl) (hd | hd)
  ·exact hFD k hk hd
  ·exact (hsk k hd).1 hk
  ·rcases hat with h | h
   ·exact hFD _ (hvF _ h) hd
   ·have:=hlt _ (.inr hd);omega
  ·rcases hat with h | h
   ·exact (hsk _ hd).1 (hvF _ h)
   ·have:=(hsk _ hd).2;omega
 ·intro k hk
  injection hk with hk
  exact .inr hk.symm
 ·intro y hy
  rcases List.mem_append.1 hy with hy | hy
  ·exact⟨(hlog y hy).1.chg a0 fun k hk f=>hFD k f ((hlog y hy).2 k hk),fun k hk=>.inl ((hlog y hy).2 k hk)⟩
  ·rw [List.mem_singleton] at hy
   subst hy
   exact⟨hs.chg a0 fun k hk f=>(hsk k hk).1 f,fun k hk=>.inr hk⟩
 ·rintro k (hk | rfl)
  ·exact .inl hk
  ·rcases hat with h | h
   ·exact .inl (hvF _ h)
   ·exact .inr ⟨by omega,by rw [c0];exact hlt5⟩
 ·exact⟨a0.os.trans hB4.os,a0.tape.trans hB4.tape,a0.output.trans hB4.output,Nat.le_trans hB4.size a0.size,fun k hk hF=>(a0.block k (by omega) hF).trans (hB4.block k hk)⟩
theorem infoVote:(Tryz.prog.info? 184).map (fun i=>(i.zero,i.size,i.bytes))=some (some (.agg #[.int .i64 0, .int .i64 0, .slice none 0 0, .int .i64 0]),4,48):=by kernel_rfl
theorem vNew_any (view n:Int) (w:World) (h0 : -9223372036854775808≤view) (h1:view≤9223372036854775807) :
  Calls Tryz.prog 138 #[.int .i64 view, .int .i64 n] w fun r w'=>(Z1y view n=0∧r=.returned (.pointer none)∧Below w.heap.size w w') ∨
   (Z1y view n≠0∧r=.returned (.pointer (some ⟨w.heap.size,0,none⟩))∧vtO 173 184 w' (fun k=>k=w.heap.size) (fun _=>False) w.heap.size view n []∧w'=w.alloc (.cells #[.int .i64 view, .int .i64 n, .slice none 0 0] 173)):=by
 by_cases hd:Z1y view n=0
 ·have a0:=hd_ hd
  go_enter Tryz.func138,Tryz.ntmps138
  go_wp2_with (go_at_call 89;refine (Z0p _ _ _ h0 h1).mono ?_;rintro e w' ⟨rfl,rfl⟩)
  go_ret
  exact .inl ⟨a0.out,rfl,Below.refl _ _⟩
 ·have a0:=hd_ hd
  have d:(Z1y view n==0)=false:=by simpa using hd
  go_enter Tryz.func138,Tryz.ntmps138
  go_wp2_with (go_at_call 89;refine (Z0p _ _ _ h0 h1).mono ?_;rintro e w' ⟨rfl,rfl⟩)
  go_ret
  refine .inr ⟨a0.out,rfl,⟨rfl,fun _ _ h=>h, .slice none 0 0,Z0a _ _,World.ownsRow_nil _ _ _ _,fun k hk=>(by cases hk),fun y hy=>(by cases hy)⟩,rfl⟩
end
section
open Go.RowKit
def Za5 (T TV:TypeId) (w w':World) (F D E:Nat→Prop) (b:Nat) (view n:Int) (l:List VtS) (x:Vt) (ok:Bool):Prop:=
 if ok=true then ∃ s' F' D',vtO T TV w' F' D' b view n (l++[⟨x,s'⟩])∧(∀ k,F' k→F k∨(w.heap.size≤k∧k<w'.heap.size))∧(∀ k,D' k→D k∨(w.heap.size≤k∧k<w'.heap.size)∨E k)∧Chg F w w'
 else Below w.heap.size w w'
theorem okV_one {view n:Int} {l:List VtS} {x:Vt} (h:(decide (1≤x.frm)&&decide (x.frm≤n) && !Z18 (Z0v l) x.frm&&decide (0≤x.last)&&decide (x.last<view))=false):okV view n l x=false:=by
 unfold okV;rw [h];simp
theorem okV_two {view n:Int} {l:List VtS} {x:Vt} (h:(decide (1≤x.frm)&&decide (x.frm≤n) && !Z18 (Z0v l) x.frm&&decide (0≤x.last)&&decide (x.last<view))=true) :
  okV view n l x=(decide ((Z2y x.lg).length=x.lg.length)&&decide (0≤x.com)&&decide (x.com≤(x.lg.length:Int))):=by
 unfold okV;rw [h];simp [Bool.and_assoc]
theorem vAdd_any (b:Nat) (view n:Int) (l:List VtS) (x:Vt) (s:Value) (F D:Nat→Prop) (w:World) (hr:vtO 173 184 w F D b view n l) (hlt:∀ k,F k∨D k→k<w.heap.size) (hs:rdE w s x.lg) (hl:l.length≤200) :
  Calls Tryz.prog 139 #[.pointer (some ⟨b,0,none⟩),x.val s] w fun r w'=>r=.returned (.bool (okV view n l x))∧Za5 173 184 w w' F D (fun _=>False) b view n l x (okV view n l x):=by
 obtain⟨i0,hi,y3,s3,n3⟩:=info_parts infoVote
 replace hi:=hd_ hi
 obtain⟨xf,xl,xg,xc⟩:=x
 dsimp only at hs
 obtain⟨sa,sc,rfl⟩:=hs.len
 simp only [Vt.val]
 obtain⟨W1,k2⟩:∃ W,W=w.alloc (boxV xf xl (.slice sa xg.length sc) xc 184):=⟨_,rfl⟩
 have m1:Below w.heap.size w W1:=k2 ▸ (Below.refl _ _).alloc (Nat.le_refl _) _
 have j1:W1.heap[w.heap.size]?=some (boxV xf xl (.slice sa xg.length sc) xc 184):=k2 ▸ Z0a _ _
 have o1:=hr.grow m1
 have q1:=o1.rd
 have f2:=hs.grow m1
 obtain⟨ok,w1⟩:∃ ok,okV view n l ⟨xf,xl,xg,xc⟩=ok:=⟨_,rfl⟩
 have a3:=o1.rd.lt
 replace hr:=hd_ hr;replace o1:=hd_ o1;replace q1:=hd_ q1;replace hlt:=hd_ hlt;replace hs:=hd_ hs;replace f2:=hd_ f2;replace m1:=hd_ m1;replace j1:=hd_ j1
 obtain⟨nb,x0⟩:∃ nb,nb=w.heap.size:=⟨_,rfl⟩
 rw [← x0] at j1
 rw [w1]
 replace w1:=hd_ w1
 go_enter Tryz.func139,Tryz.ntmps139
 go_upto_region 1 with (fail)
 rw [← k2,← x0]
 clear k2;replace x0:=hd_ x0
 obtain⟨p1,m0⟩:∃ p1,(decide (1≤xf)&&decide (xf≤n) && !Z18 (Z0v l) xf&&decide (0≤xl)&&decide (xl<view))=p1:=⟨_,rfl⟩
 replace m0:=hd_ m0
 go_cut [41] (fun s wx=>s=.bool (!p1)∧Below W1.heap.size W1 wx)
 case first=>
  have u0:=Z07 (Z00 j1.out 0)
  have u1:=Z07 (Z00 j1.out 1)
  have v0:=Z07 q1.out.1
  have v1:=Z07 q1.out.2.1
  obtain⟨q,hq⟩:∃ q,Z18 (Z0v l) xf=q:=⟨_,rfl⟩
  have HT:Hid (∀ y,Calls Tryz.prog 127 #[.pointer (some ⟨b,0,none⟩)] (Z1c W1 y) fun r w'=>r=.returned (.int .i64 (Z0v l))∧∃ z,w'=Z1c W1 z):=hd_ fun y=>Z5l (Z54 b view n l _ (q1.out.grow (Z0s W1 y)))
  have HH:Hid (∀ y,Calls Tryz.prog 128 #[.int .i64 (Z0v l), .int .i64 xf] (Z1c W1 y) fun r w'=>r=.returned (.bool q)∧∃ z,w'=Z1c W1 z):=hd_ fun y=>by
   rw [← hq];exact Z0o (Z5k _ _ _ (Z31 l))
  rw [hq] at m0
  replace hq:=hd_ hq
  by_cases c1:xf<1
  ·have d1:decide (xf<1)=true:=by simpa using c1
   refine Z08 (by kernel_rfl) (by kernel_rfl) ?_
   repeat (go_big_quiet_step ((first | (go_at_call 127;exact HT.out _) | (go_at_call 128;exact HH.out _))))
   refine wpQuiet_nil ?_
   intro w2 d0
   have n0:=Z0e d0
   clear d0;go_wp2_with fail
   go_meet
   exact⟨by rw [← m0.out];simp<;>omega,n0⟩
  have d1:decide (xf<1)=false:=by simpa using c1
  by_cases c2:n<xf
  ·have d2:decide (n<xf)=true:=by simpa using c2
   refine Z08 (by kernel_rfl) (by kernel_rfl) ?_
   repeat (go_big_quiet_step ((first | (go_at_call 127;exact HT.out _) | (go_at_call 128;exact HH.out _))))
   refine wpQuiet_nil ?_
   intro w2 d0
   have n0:=Z0e d0
   clear d0;go_wp2_with fail
   go_meet
   exact⟨by rw [← m0.out];simp<;>omega,n0⟩
  have d2:decide (n<xf)=false:=by simpa using c2
  cases q
  case true=>
   refine Z08 (by kernel_rfl) (by kernel_rfl) ?_
   repeat (go_big_quiet_step ((first | (go_at_call 127;exact HT.out _) | (go_at_call 128;exact HH.out _))))
   refine wpQuiet_nil ?_
   intro w2 d0
   have n0:=Z0e d0
   clear d0;go_wp2_with fail
   go_meet
   exact⟨by rw [← m0.out];simp<;>omega,n0⟩
  by_cases c4:xl<0
  ·have d4:decide (xl<0)=true:=by simpa using c4
   refine Z08 (by kernel_rfl) (by kernel_rfl) ?_
   repeat (go_big_quiet_step ((first | (go_at_call 127;exact HT.out _) | (go_at_call 128;exact HH.out _))))
   refine wpQuiet_nil ?_
   intro w2 d0
   have n0:=Z0e d0
   clear d0;go_wp2_with fail
   go_meet
   exact⟨by rw [← m0.out];simp<;>omega,n0⟩
  have d4:decide (xl<0)=false:=by simpa using c4
  by_cases c5:view≤xl
  ·have d5:decide (view≤xl)=true:=by simpa using c5
   refine Z08 (by kernel_rfl) (by kernel_rfl) ?_
   repeat (go_big_quiet_step ((first | (go_at_call 127;exact HT.out _) | (go_at_call 128;exact HH.out _))))
   refine wpQuiet_nil ?_
   intro w2 d0
   have n0:=Z0e d0
   clear d0;go_wp2_with fail
   go_meet
   exact⟨by rw [← m0.out];simp<;>omega,n0⟩
  have d5:decide (view≤xl)=false:=by simpa using c5
  refine Z08 (by kernel_rfl) (by kernel_rfl) ?_
  repeat (go_big_quiet_step ((first | (go_at_call 127;exact HT.out _) | (go_at_call 128;exact HH.out _))))
  refine wpQuiet_nil ?_
  intro w2 d0
  have n0:=Z0e d0
  clear d0;go_wp2_with fail
  go_meet
  exact⟨by rw [← m0.out];simp<;>omega,n0⟩
 case rest=>
  obtain⟨rfl,s1⟩:=hcut
  have w0:=m1.out.trans (s1.mono m1.out.size)
  cases p1
  ·have a0:=w1.out
   rw [okV_one m0.out] at a0
   subst a0;go_wp2
   go_ret
   exact⟨rfl,by rw [Za5,if_neg Bool.false_ne_true];exact w0⟩
  have j0:=Z02 j1.out s1
  have j2:=o1.out.grow s1
  have s0:=f2.out.grow s1
  have z1:b<wc.heap.size:=Nat.lt_of_lt_of_le a3 s1.size
  replace w0:=hd_ w0;replace j0:=hd_ j0;replace j2:=hd_ j2;replace s0:=hd_ s0
  have a0:=okV_two (x:=⟨xf,xl,xg,xc⟩) m0.out
  rw [w1.out] at a0
  dsimp only at a0
  replace a0:=hd_ a0;clear s1 o1 f2 m1 j1 q1;go_upto_region 3 with (fail)
  go_cut [62] (fun s wx=>s=.bool (!ok)∧Below wc.heap.size wc wx)
  case first=>
   have u2:=Z07 (Z00 j0.out 2)
   have u3:=Z07 (Z00 j0.out 3)
   have hlE:Hid ((Z2y xg).length=xg.length→decide ((Z2y xg).length==xg.length)=true):=hd_ fun h=>by simp [h]
   by_cases c1:(Z2y xg).length=xg.length
   case neg=>
    have d1:((Z2y xg).length==xg.length)=false:=by simpa using c1
    have d1x:((Z2y xg).length != xg.length)=true:=by simpa using c1
    have d1i:(((Z2y xg).length:Int)==(xg.length:Int))=false:=by simp;omega
    have d1j:(((Z2y xg).length:Int) != (xg.length:Int))=true:=by simp;omega
    refine Z30 wc (.q 0 (.q 1 (.q 4 (.q 5 (.q 6 (.l 2 (.l 3 (.q 7 (.q 8 (.q 9 (.q 10 (.q 11 (.q 12 (.q 13 (.q 14 (.q 15 (.q 16 (.q 17 (.q 18 (.q 19 (.q 20 .fin))))))))))))))))))))) (by kernel_rfl) (by kernel_rfl) (Below.refl _ _) ?_
    intro v0 b0 g0 n1;clear b0 n1
    repeat (refine pl_q rfl ?_;go_big_quiet_step (fail);refine wpQuiet_nil ?_)
    refine pl_l rfl rfl ?_
    intro K hK;go_simp
    refine (Z1e _ xg _ (s0.out.grow g0)).mono ?_
    rintro r v1 ⟨bl,rfl,k1,o0,p0⟩
    have f0:=g0.trans (p0.mono g0.size)
    have f1:=hd_ o0.rd
    refine hK wc _ _ (Below.refl _ _) f0 ?_
    clear hK K p0 o0 k1
    refine pl_l rfl rfl ?_
    intro K hK;go_simp
    refine (Z0m bl _ _ f1.out).mono ?_
    rintro r v2 ⟨rfl,rfl⟩
    refine hK wc _ _ (Below.refl _ _) f0 ?_
    clear hK K
    repeat (refine pl_q rfl ?_;go_big_quiet_step (fail);refine wpQuiet_nil ?_)
    refine Zdw ?_
    go_wp2_with fail
    go_meet
    exact⟨by rw [a0.out];simp<;>omega,f0⟩
   have d1:((Z2y xg).length==xg.length)=true:=by simpa using c1
   have d1x:((Z2y xg).length != xg.length)=false:=by simpa using c1
   have d1i:(((Z2y xg).length:Int)==(xg.length:Int))=true:=by simp;omega
   have d1j:(((Z2y xg).length:Int) != (xg.length:Int))=false:=by simp;omega
   have x2:=hd_ c1
   clear c1
   by_cases c2:xc<0
   ·have d2:decide (xc<0)=true:=by simpa using c2
    refine Z30 wc (.q 0 (.q 1 (.q 4 (.q 5 (.q 6 (.l 2 (.l 3 (.q 7 (.q 8 (.q 9 (.q 10 (.q 11 (.q 12 (.q 13 (.q 14 (.q 15 (.q 16 (.q 17 (.q 18 (.q 19 (.q 20 .fin))))))))))))))))))))) (by kernel_rfl) (by kernel_rfl) (Below.refl _ _) ?_
    intro v0 b0 g0 n1;clear b0 n1
    repeat (refine pl_q rfl ?_;go_big_quiet_step (fail);refine wpQuiet_nil ?_)
    refine pl_l rfl rfl ?_
    intro K hK;go_simp
    refine (Z1e _ xg _ (s0.out.grow g0)).mono ?_
    rintro r v1 ⟨bl,rfl,k1,o0,p0⟩
    have f0:=g0.trans (p0.mono g0.size)
    have f1:=hd_ o0.rd
    refine hK wc _ _ (Below.refl _ _) f0 ?_
    clear hK K p0 o0 k1
    refine pl_l rfl rfl ?_
    intro K hK;go_simp
    refine (Z0m bl _ _ f1.out).mono ?_
    rintro r v2 ⟨rfl,rfl⟩
    refine hK wc _ _ (Below.refl _ _) f0 ?_
    clear hK K
    repeat (refine pl_q rfl ?_;go_big_quiet_step (fail);refine wpQuiet_nil ?_)
    refine Zdw ?_
    go_wp2_with fail
    go_meet
    exact⟨by rw [a0.out];simp [x2.out]<;>omega,f0⟩
   have d2:decide (xc<0)=false:=by simpa using c2
   by_cases c3:(xg.length:Int)<xc
   ·have d3:decide ((xg.length:Int)<xc)=true:=by simpa using c3
    refine Z30 wc (.q 0 (.q 1 (.q 4 (.q 5 (.q 6 (.l 2 (.l 3 (.q 7 (.q 8 (.q 9 (.q 10 (.q 11 (.q 12 (.q 13 (.q 14 (.q 15 (.q 16 (.q 17 (.q 18 (.q 19 (.q 20 .fin))))))))))))))))))))) (by kernel_rfl) (by kernel_rfl) (Below.refl _ _) ?_
    intro v0 b0 g0 n1;clear b0 n1
    repeat (refine pl_q rfl ?_;go_big_quiet_step (fail);refine wpQuiet_nil ?_)
    refine pl_l rfl rfl ?_
    intro K hK;go_simp
    refine (Z1e _ xg _ (s0.out.grow g0)).mono ?_
    rintro r v1 ⟨bl,rfl,k1,o0,p0⟩
    have f0:=g0.trans (p0.mono g0.size)
    have f1:=hd_ o0.rd
    refine hK wc _ _ (Below.refl _ _) f0 ?_
    clear hK K p0 o0 k1
    refine pl_l rfl rfl ?_
    intro K hK;go_simp
    refine (Z0m bl _ _ f1.out).mono ?_
    rintro r v2 ⟨rfl,rfl⟩
    refine hK wc _ _ (Below.refl _ _) f0 ?_
    clear hK K
    repeat (refine pl_q rfl ?_;go_big_quiet_step (fail);refine wpQuiet_nil ?_)
    refine Zdw ?_
    go_wp2_with fail
    go_meet
    exact⟨by rw [a0.out];simp [x2.out]<;>omega,f0⟩
   have d3:decide ((xg.length:Int)<xc)=false:=by simpa using c3
   refine Z30 wc (.q 0 (.q 1 (.q 4 (.q 5 (.q 6 (.l 2 (.l 3 (.q 7 (.q 8 (.q 9 (.q 10 (.q 11 (.q 12 (.q 13 (.q 14 (.q 15 (.q 16 (.q 17 (.q 18 (.q 19 (.q 20 .fin))))))))))))))))))))) (by kernel_rfl) (by kernel_rfl) (Below.refl _ _) ?_
   intro v0 b0 g0 n1;clear b0 n1
   repeat (refine pl_q rfl ?_;go_big_quiet_step (fail);refine wpQuiet_nil ?_)
   refine pl_l rfl rfl ?_
   intro K hK;go_simp
   refine (Z1e _ xg _ (s0.out.grow g0)).mono ?_
   rintro r v1 ⟨bl,rfl,k1,o0,p0⟩
   have f0:=g0.trans (p0.mono g0.size)
   have f1:=hd_ o0.rd
   refine hK wc _ _ (Below.refl _ _) f0 ?_
   clear hK K p0 o0 k1
   refine pl_l rfl rfl ?_
   intro K hK;go_simp
   refine (Z0m bl _ _ f1.out).mono ?_
   rintro r v2 ⟨rfl,rfl⟩
   refine hK wc _ _ (Below.refl _ _) f0 ?_
   clear hK K
   repeat (refine pl_q rfl ?_;go_big_quiet_step (fail);refine wpQuiet_nil ?_)
   refine Zdw ?_
   go_wp2_with fail
   go_meet
   exact⟨by rw [a0.out];simp [x2.out]<;>omega,f0⟩
  case rest=>
   obtain⟨rfl,i1⟩:=hcut
   cases ok
   ·have l1:=w0.out.trans (i1.mono w0.out.size)
    go_wp2
    go_ret
    exact⟨rfl,by rw [Za5,if_neg Bool.false_ne_true];exact l1⟩
   have h60:xg.length≤60:=by
    have h1:=a0.out
    have h2:=Z2d xg
    simp at h1
    omega
   have l1:=w0.out.trans (i1.mono w0.out.size)
   have l0:=Z02 j0.out i1
   have i2:=j2.out.grow i1
   have x3:=hd_ (s0.out.grow i1)
   have t1:b<wc.heap.size:=Nat.lt_of_lt_of_le z1 i1.size
   have e2:=Z00 l0 2
   simp only [List.getElem?_toArray,List.getElem?_cons_zero,List.getElem?_cons_succ] at e2
   have r3:=Z04 l0
   clear i1 w0 j0 j2 s0;replace l1:=hd_ l1;replace l0:=hd_ l0;replace i2:=hd_ i2;go_wp2_with fail
   refine (Z2m _ xg _ x3.out (by omega)).mono ?_
   rintro r w5 ⟨s',rfl,ho,y1⟩
   obtain⟨ta,tc,rfl⟩:=ho.rd.len
   have q0:=Z02 l0.out y1
   have m2:=i2.out.grow y1
   have s2:=l1.out.trans (y1.mono l1.out.size)
   have q2:=Z00 q0 2
   simp only [List.getElem?_toArray,List.getElem?_cons_zero,List.getElem?_cons_succ] at q2
   have z2:=Z03 q0 2
   have m3:=y1.size
   clear e2 y1
   obtain⟨w6,b2⟩:∃ W,W=w5.setCell ⟨nb,2,none⟩ (.slice ta xg.length tc):=⟨_,rfl⟩
   have h0:w6.heap[nb]?=some (boxV xf xl (.slice ta xg.length tc) xc 184):=by rw [b2];exact Z0d q0
   have k0:Chg (fun k=>k=nb) w5 w6:=by rw [b2];exact Z06 (Chg.refl _ _) rfl
   have t2:=m2.chg k0 (fun k hk e=>by have:=hlt.out k (.inl hk);have:=x0.out;omega) (fun k hk e=>by have:=hlt.out k (.inr hk);have:=x0.out;omega)
   have r2:rdE w6 (.slice ta xg.length tc) xg:=ho.rd.chg k0 fun k hk e=>by have:=(ho.lt k hk).1;omega
   have r1:∀ k,(Value.slice ta xg.length tc).ownBlock=some k→¬ F k∧w.heap.size≤k∧k<w6.heap.size:=fun k hk=>by
    have h1:=ho.lt k hk
    have h2:=k0.size
    have h3:=l1.out.size
    exact⟨fun f=>by have:=hlt.out k (.inl f);omega,by omega,by omega⟩
   have n2:Below w.heap.size w w6:=s2.trans (k0.below s2.size fun k hk=>by have:=x0.out;omega)
   have k3:b<w6.heap.size:=by have:=k0.size;omega
   have q3:¬ b=nb:=by have:=hlt.out b (.inl m2.1);have:=x0.out;omega
   clear m2 s2 ho k0 q0 i2 l0;replace h0:=hd_ h0;replace t2:=hd_ t2;replace r2:=hd_ r2;replace r1:=hd_ r1;replace n2:=hd_ n2;go_upto_region 6 with (fail)
   rw [← b2]
   clear b2 q2 z2 t1
   obtain⟨t3,f3,v,r0,x1,y2,b1⟩:=t2.out
   have o3:∃ ao t0,v=.slice ao l.length t0:=by
    rcases x1.2 with ⟨h1,h2⟩ | ⟨g,t0,p3,h1,_⟩
    ·exact⟨none,0,by rw [h1,h2]⟩
    ·exact⟨_,t0,h1⟩
   obtain⟨ao,t0,rfl⟩:=o3
   have b3:(Value.slice ao l.length t0).ownBlock≠some b:=by
    intro h
    rcases x1.2 with ⟨h3,_⟩ | ⟨g,c,p3,h3,_,h4,_⟩
    ·rw [h3] at h;cases h
    ·rw [h3] at h;injection h with h;subst h
     rw [h4] at r0;injection r0 with r0;injection r0 with _ h5;cases h5
   have v3:w6.cell? ⟨b,2,none⟩=some (.slice ao l.length t0):=by simp [World.cell?,r0]
   have p2:w6.frozen? ⟨b,2,none⟩=false:=Z03 r0 2
   have e0:=Z00 h0.out 0
   have e1:=Z00 h0.out 1
   have e2:=Z00 h0.out 2
   have e3:=Z00 h0.out 3
   simp only [List.getElem?_toArray,List.getElem?_cons_zero,List.getElem?_cons_succ] at e0 e1 e2 e3
   have a2:¬ b=w6.heap.size:=by omega
   have l3:=Z04 h0.out
   have a1:∀ u,u ∈ VtS.cells ⟨⟨xf,xl,xg,xc⟩, .slice ta xg.length tc⟩→u.oneCell'=true:=by
    intro u hu;simp [VtS.cells] at hu;rcases hu with rfl | rfl | rfl | rfl<;>rfl
   replace r0:=hd_ r0;replace x1:=hd_ x1;replace f3:=hd_ f3;replace y2:=hd_ y2;replace b1:=hd_ b1;replace a1:=hd_ a1
   go_region_law
    ((refine step_append_lies _ (by rfl) _ _ _ (by rfl) 0 184 i0 _ 4 48 Tryz.underlying171 hi.out y3 s3 n3 rfl (by omega) (.slice ao l.length t0) l.length (Z90 l) (by rfl) ((World.ownsRow.alloc x1.out _).drew) ⟨w6.heap.size,0,none⟩ 1 1 (VtS.cells ⟨⟨xf,xl,xg,xc⟩, .slice ta xg.length tc⟩) (by rfl) (by rfl) (World.news_of_block (cs:=#[.int .i64 xf, .int .i64 xl, .slice ta xg.length tc, .int .i64 xc]) (t:=184) (fr:=(0,0)) (heap_alloc_new w6 _)) a1.out (by omega) (by unfold maxLen;omega) (by omega) (by simp) (w6.heap.size+1) (by simp) ?_;intro gg w3 w7 y0 c0 j3 i3;have o2:w7.frozen? ⟨b,2,none⟩=false:=(c0.frozen_far ⟨b,2,none⟩ (by simp<;>omega) (Ne.symm b3)).trans ((World.frozen?_alloc_old w6 _ ⟨b,2,none⟩ a2).trans p2);have l2:w7.cell? ⟨b,2,none⟩=some (.slice ao l.length t0):=(c0.cell_far ⟨b,2,none⟩ (by simp<;>omega) (Ne.symm b3)).trans ((World.cell?_alloc_old w6 _ ⟨b,2,none⟩ a2).trans v3)))
   all_goals
    have z0:=vt_close (x:=⟨xf,xl,xg,xc⟩) (n':=l.length+1) (l:=l) hlt.out n2.out t3 f3.out r0.out y2.out b3 b1.out r2.out (fun k hk=>⟨(r1.out k hk).1,(r1.out k hk).2.2⟩) (by simp) (by rw [Zfb];exact y0) c0 j3 i3
    replace z0:=hd_ z0
    have hz7:w6.heap.size≤w7.heap.size:=by have:=c0.size;simp at this;omega
    clear y0 c0 j3 o2 l2;go_wp2
    go_ret
    refine⟨rfl,?_⟩
    rw [Za5,if_pos rfl]
    obtain⟨g1,g2,g3⟩:=z0.out
    refine⟨_,_,_,g1,g2,?_,g3⟩
    rintro k (hk | hk)
    ·exact .inl hk
    ·exact .inr (.inl ⟨(r1.out k hk).2.1,by rw [World.size_setCell];have:=(r1.out k hk).2.2;omega⟩)
end
section
open Go.RowKit
theorem or_add:∀ T,T<128→∀ k,k<7→T.testBit k=false→T ||| 2 ^ k=T+2 ^ k:=by decide +kernel
theorem Zhq {T:Nat} {id:Int} (hT:T<128) (h1:1≤id) (h7:id≤7) (hn:Z18 T id=false):Z37 T id=T+2 ^ (id.toNat-1):=by
 rw [Z18,Z6v h1 h7,Bool.true_and] at hn
 rw [Z37,if_pos (Z6v h1 h7)]
 exact or_add T hT _ (by omega) hn
end
end Go.Proofs.YtbonjbokofkafaaGreat
