/- Lemmas of the proof: PkB. -/
import Derived.Test.YtbonjbokofkafaaGreatPkA
import Derived.Test.YtbonjbokofkafaaGreatRows
import Derived.WalkKit
import Derived.WalkSpells
import Derived.WalkLawsBesides
import Derived.Handy
import Derived.IntWalk
import Derived.StillTailTactics
import Derived.Deep.Slices
import Derived.Deep.Fields
import Derived.Deep.RegionHeld3
import Derived.Deep.RegionLaw
import Derived.Deep.AppendLies
import Derived.Deep.DeepCutAuto
namespace Go.Proofs.YtbonjbokofkafaaGreat
set_option linter.unusedVariables false
set_option maxRecDepth 100000
set_option maxHeartbeats 64000000
section
open Go.RowKit
structure Ent where
 frm:Int
 boot:Int
 seq:Int
 ord:Int
 lev:Int
 stamp:Int
 data:ByteArray
abbrev Ent.cells (e:Ent):List Value:=[.int .i64 e.frm, .int .i64 e.boot, .int .i64 e.seq, .int .i64 e.ord, .int .i64 e.lev, .int .i64 e.stamp, .string e.data]
abbrev Ent.val (e:Ent):Value:=.agg #[.int .i64 e.frm, .int .i64 e.boot, .int .i64 e.seq, .int .i64 e.ord, .int .i64 e.lev, .int .i64 e.stamp, .string e.data]
def Z35 (a b:Ent):Bool:=a.frm==b.frm&&a.boot==b.boot&&a.seq==b.seq
def eqE (a b:Ent):Bool:=Z35 a b&&a.ord==b.ord&&a.lev==b.lev&&a.stamp==b.stamp&&a.data.toList==b.data.toList
def Z2l (e:Ent):Bool:=
 decide (1≤e.frm)&&decide (e.frm≤7)&&decide (1≤e.boot)&&decide (e.boot≤1099511627776)&&decide (1≤e.seq)&&decide (e.seq≤1099511627776) &&
 decide (0≤e.ord)&&decide (e.ord≤2)&&decide (0≤e.lev)&&decide (e.lev≤2)&&decide (0≤e.stamp)&&decide (e.stamp≤1099511627776)&&decide (e.data.size≤16)
def cellsE (w:World) (b off:Nat) (e:Ent):Prop:=
 w.cell? ⟨b,off,none⟩=some (.int .i64 e.frm)∧w.cell? ⟨b,off+1,none⟩=some (.int .i64 e.boot)∧w.cell? ⟨b,off+2,none⟩=some (.int .i64 e.seq) ∧
 w.cell? ⟨b,off+3,none⟩=some (.int .i64 e.ord)∧w.cell? ⟨b,off+4,none⟩=some (.int .i64 e.lev)∧w.cell? ⟨b,off+5,none⟩=some (.int .i64 e.stamp) ∧
 w.cell? ⟨b,off+6,none⟩=some (.string e.data)
def rdE (w:World) (v:Value) (l:List Ent):Prop:=
 ∃ a cap,v=.slice a l.length cap∧l.length≤cap∧cap≤maxLen∧(0<l.length→∃ b off,a=some ⟨b,off,none⟩∧∀ j (h:j<l.length),cellsE w b (off+j*7) l[j])
def inB (lo hi:Int) (l:List Int):Bool:=l.all fun n=>decide (lo≤n)&&decide (n≤hi)
theorem Zdx (lo hi:Int) (l:List Int) (k:Nat) (h:k<l.length):inB lo hi (l.take (k+1))=(inB lo hi (l.take k)&&(decide (lo≤l[k])&&decide (l[k]≤hi))):=by
 unfold inB;rw [List.take_succ_eq_append_getElem h,List.all_append];simp
theorem Z4z (lo hi:Int) (l:List Int) (k:Nat) (h:inB lo hi (l.take k)=false):inB lo hi l=false:=by
 unfold inB at h ⊢
 rw [← List.take_append_drop k l,List.all_append,h,Bool.false_and]
theorem Zc4 (e:Ent):Z2l e=(inB 1 7 [e.frm]&&inB 1 1099511627776 [e.boot,e.seq]&&inB 0 2 [e.ord,e.lev]&&inB 0 1099511627776 [e.stamp]&&decide ((e.data.size:Int)≤16)):=by
 rw [Bool.eq_iff_iff];simp [Z2l,inB];omega
def Z3i (l:List Ent):List Value:=l.flatMap Ent.cells
theorem Z50 (l:List Ent):(Z3i l).length=l.length*7:=by
 induction l with
 | nil=>rfl
 | cons x l ih=>unfold Z3i at ih ⊢;rw [List.flatMap_cons,List.length_append,ih];simp;omega
theorem Z6x (l:List Ent) (j:Nat) (h:j<l.length) (c:Nat) (hc:c<7):(Z3i l)[j*7+c]?=(l[j].cells)[c]?:=by
 induction l generalizing j with
 | nil=>simp at h
 | cons x l ih=>
   unfold Z3i at ih ⊢
   rw [List.flatMap_cons]
   cases j with
   | zero=>rw [Nat.zero_mul,Nat.zero_add,List.getElem?_append_left (by simpa using hc)];rfl
   | succ j=>
     rw [List.getElem?_append_right (by simp;omega),show (j+1)*7+c-x.cells.length=j*7+c by simp;omega,ih j (by simpa using h)]
     rfl
theorem Z39 (l:List Ent) (e:Ent):Z3i (l++[e])=Z3i l++e.cells:=by
 unfold Z3i;rw [List.flatMap_append];simp
def ownE (w:World) (base:Nat) (E:TypeId) (v:Value) (l:List Ent):Prop:=w.ownsRow base E 7 v l.length (Z3i l)
theorem ownE.rd {w:World} {base:Nat} {E:TypeId} {v:Value} {l:List Ent} (h:ownE w base E v l):rdE w v l:=by
 obtain⟨hl,⟨rfl,h0⟩ | ⟨g,d0,b0,rfl,hb,hg,hn,hc,hs,ht⟩⟩:=h
 ·exact⟨none,0,by rw [h0],by rw [h0];exact Nat.zero_le _,Nat.zero_le _,fun h=>by omega⟩
 ·refine⟨some ⟨g,0,none⟩,d0,rfl,hn,hc,fun _=>⟨g,0,rfl,fun j hj=>?_⟩⟩
  have a0:∀ c u,c<7→(l[j].cells)[c]?=some u→w.cell? ⟨g,0+j*7+c,none⟩=some u:=by
   intro c u c0 hu
   have h1:(b0.toList.take (l.length*7))[j*7+c]?=some u:=by rw [ht,Z6x l j hj c c0];exact hu
   rw [List.getElem?_take] at h1
   split at h1
   ·simp [World.cell?,hg] at h1 ⊢
    simpa using h1
   ·cases h1
  exact⟨a0 0 _ (by omega) rfl,a0 1 _ (by omega) rfl,a0 2 _ (by omega) rfl,a0 3 _ (by omega) rfl,a0 4 _ (by omega) rfl,a0 5 _ (by omega) rfl,a0 6 _ (by omega) rfl⟩
theorem cellsE.lt {w:World} {b o:Nat} {e:Ent} (h:cellsE w b o e):b<w.heap.size:=Z0f h.1
theorem cellsE.below {w w':World} {B b o:Nat} {e:Ent} (h:cellsE w b o e) (hb:Below B w w') (hB:b<B):cellsE w' b o e:=by
 have k:∀ o,w'.cell? ⟨b,o,none⟩=w.cell? ⟨b,o,none⟩:=fun o=>hb.cell hB
 unfold cellsE at h ⊢
 simp only [k];exact h
theorem rdE.grow {w w':World} {v:Value} {l:List Ent} (h:rdE w v l) (hb:Below w.heap.size w w'):rdE w' v l:=by
 obtain⟨a,cap,rfl,hm,hM,ha⟩:=h
 refine⟨a,cap,rfl,hm,hM,fun h0=>?_⟩
 obtain⟨b,off,rfl,hc⟩:=ha h0
 exact⟨b,off,rfl,fun j hj=>(hc j hj).below hb (hc j hj).lt⟩
theorem rdE.heap {w w':World} {v:Value} {l:List Ent} (h:rdE w v l) (hb:w'.heap=w.heap):rdE w' v l:=by
 obtain⟨a,a0,rfl,hm,hM,ha⟩:=h
 refine⟨a,a0,rfl,hm,hM,fun h0=>?_⟩
 obtain⟨b,off,rfl,hc⟩:=ha h0
 refine⟨b,off,rfl,fun j hj=>?_⟩
 have:=hc j hj
 simp only [cellsE,World.cell?,hb] at this ⊢
 exact this
theorem rdE.len {w:World} {v:Value} {l:List Ent} (h:rdE w v l):∃ a cap,v=.slice a l.length cap:=by
 obtain⟨a,cap,rfl,_⟩:=h;exact⟨a,cap,rfl⟩
theorem Z0z {w w':World} {B:Nat} {E:TypeId} {v:Value} {l:List Ent} (h:ownE w B E v l) (hb:Below w.heap.size w w'):ownE w' B E v l:=by
 obtain⟨h1,h2⟩:=h
 refine⟨h1,h2.imp id ?_⟩
 rintro⟨g,b0,a0,e1,e2,e3,e4,e5,e6,e7⟩
 refine⟨g,b0,a0,e1,e2,?_,e4,e5,e6,e7⟩
 rw [hb.block g ?_]
 ·exact e3
 ·exact Nat.lt_of_not_le fun hge=>by
   have e:w.heap[g]?=none:=by simp;exact hge
   rw [e] at e3;cases e3
end
section
open Go.RowKit
theorem bcell {W w1:World} (hb:Below W.heap.size W w1):(∀ b o,b<W.heap.size→w1.cell? ⟨b,o,none⟩=W.cell? ⟨b,o,none⟩)∧(∀ b o,b<W.heap.size→w1.frozen? ⟨b,o,none⟩=W.frozen? ⟨b,o,none⟩):=
 ⟨fun b o h=>hb.cell (p:=⟨b,o,none⟩) h,fun b o h=>hb.frozen (p:=⟨b,o,none⟩) h⟩
theorem Z51 (a b:Ent) (w:World) :
  Calls Tryz.prog 213 #[a.val,b.val] w fun e w'=>e=.returned (.bool (Z35 a b))∧Below w.heap.size w w':=by
 obtain⟨a1,a2,a3,a4,a5,a6,a7⟩:=a
 obtain⟨b1,b2,b3,b4,b5,b6,b7⟩:=b
 simp only [Ent.val,Z35]
 go_enter Tryz.func213,Tryz.ntmps213
 go_wp2
 all_goals go_ret
 all_goals refine⟨Z0b ?_,((Below.refl _ _).alloc (Nat.le_refl _) _).alloc (by simp) _⟩
 all_goals simp [*]
theorem Z9z (a b:Ent) (w:World) :
  Calls Tryz.prog 112 #[a.val,b.val] w fun e w'=>e=.returned (.bool (Z35 a b))∧Below w.heap.size w w':=by
 obtain⟨a1,a2,a3,a4,a5,a6,a7⟩:=a
 obtain⟨b1,b2,b3,b4,b5,b6,b7⟩:=b
 simp only [Ent.val,Z35]
 go_enter Tryz.func112,Tryz.ntmps112
 go_wp2
 all_goals go_ret
 all_goals refine⟨Z0b ?_,((Below.refl _ _).alloc (Nat.le_refl _) _).alloc (by simp) _⟩
 all_goals simp [*]
theorem eq_any (a b:Ent) (w:World) :
  Calls Tryz.prog 224 #[a.val,b.val] w fun e w'=>e=.returned (.bool (eqE a b))∧Below w.heap.size w w':=by
 obtain⟨a1,a2,a3,a4,a5,a6,a7⟩:=a
 obtain⟨b1,b2,b3,b4,b5,b6,b7⟩:=b
 simp only [Ent.val,eqE]
 have hB:∀ o1 o2 w1,Below ((w.alloc o1).alloc o2).heap.size ((w.alloc o1).alloc o2) w1→Below w.heap.size w w1:=fun o1 o2 w1 h=>
  (((Below.refl _ _).alloc (Nat.le_refl _) _).alloc (by simp) _).trans (h.mono (by simp;omega))
 have hB:=hd_ hB
 cases hs:Z35 ⟨a1,a2,a3,a4,a5,a6,a7⟩ ⟨b1,b2,b3,b4,b5,b6,b7⟩
 ·have hs:=hd_ hs
  go_enter Tryz.func224,Tryz.ntmps224
  go_wp2_with fail
  refine (Z51 ⟨a1,a2,a3,a4,a5,a6,a7⟩ ⟨b1,b2,b3,b4,b5,b6,b7⟩ _).mono ?_
  rintro e w1 ⟨rfl,hb⟩
  rw [hs.out]
  go_wp2
  go_ret
  exact⟨Z0b (by simp),hB.out _ _ _ hb⟩
 ·have hs:=hd_ hs
  go_enter Tryz.func224,Tryz.ntmps224
  go_wp2_with fail
  refine (Z51 ⟨a1,a2,a3,a4,a5,a6,a7⟩ ⟨b1,b2,b3,b4,b5,b6,b7⟩ _).mono ?_
  rintro e w1 ⟨rfl,hb⟩
  rw [hs.out]
  obtain⟨hc,hf⟩:=bcell hb
  go_wp2
  all_goals go_ret
  all_goals refine⟨Z0b ?_,hB.out _ _ _ hb⟩
  all_goals simp [*]
theorem req_any (a b:Ent) (w:World) :
  Calls Tryz.prog 88 #[a.val,b.val] w fun e w'=>e=.returned (.bool (eqE a b))∧Below w.heap.size w w':=by
 obtain⟨a1,a2,a3,a4,a5,a6,a7⟩:=a
 obtain⟨b1,b2,b3,b4,b5,b6,b7⟩:=b
 simp only [Ent.val,eqE]
 have hB:∀ o1 o2 w1,Below ((w.alloc o1).alloc o2).heap.size ((w.alloc o1).alloc o2) w1→Below w.heap.size w w1:=fun o1 o2 w1 h=>
  (((Below.refl _ _).alloc (Nat.le_refl _) _).alloc (by simp) _).trans (h.mono (by simp;omega))
 have hB:=hd_ hB
 cases hs:Z35 ⟨a1,a2,a3,a4,a5,a6,a7⟩ ⟨b1,b2,b3,b4,b5,b6,b7⟩
 ·have hs:=hd_ hs
  go_enter Tryz.func88,Tryz.ntmps88
  go_wp2_with fail
  refine (Z9z ⟨a1,a2,a3,a4,a5,a6,a7⟩ ⟨b1,b2,b3,b4,b5,b6,b7⟩ _).mono ?_
  rintro e w1 ⟨rfl,hb⟩
  rw [hs.out]
  go_wp2
  go_ret
  exact⟨Z0b (by simp),hB.out _ _ _ hb⟩
 ·have hs:=hd_ hs
  go_enter Tryz.func88,Tryz.ntmps88
  go_wp2_with fail
  refine (Z9z ⟨a1,a2,a3,a4,a5,a6,a7⟩ ⟨b1,b2,b3,b4,b5,b6,b7⟩ _).mono ?_
  rintro e w1 ⟨rfl,hb⟩
  rw [hs.out]
  obtain⟨hc,hf⟩:=bcell hb
  go_wp2
  all_goals go_ret
  all_goals refine⟨Z0b ?_,hB.out _ _ _ hb⟩
  all_goals simp [*]
end
section
open Go.RowKit
theorem Zdy (lo hi:Int) (v:Value) (l:List Int) (w:World) (hr:rdI w v l) :
  Calls Tryz.prog 217 #[.int .i64 lo, .int .i64 hi,v] w fun e w'=>e=.returned (.bool (inB lo hi l))∧w=w':=by
 obtain⟨a,cap,rfl,hm,hM,ha⟩:=hr
 unfold maxLen at hM
 go_enter Tryz.func217,Tryz.ntmps217
 go_wp2
 go_loop [11] (fun i=>∃ k:Nat,k≤l.length∧i=.int .i64 k∧inB lo hi (l.take k)=true) (fun i=>l.length-(intOf i).toNat)
 case atStart=>exact⟨0,Nat.zero_le _,rfl,rfl⟩
 case round=>
  obtain⟨k,hk,rfl,hI⟩:=hrel
  replace hI:=hd_ hI
  by_cases hlt:k<l.length
  ·obtain⟨b,off,rfl,hc⟩:=ha (by omega)
   have a0:=hc k hlt
   have hs:=Zdx lo hi l k hlt
   rw [hI.out,Bool.true_and] at hs
   clear hc ha
   generalize l[k]=x at a0 hs
   replace hs:=hd_ hs
   by_cases h1:lo≤x
   ·by_cases h2:x≤hi
    ·go_wp2
     go_round
     case rel=>exact⟨k+1,by omega,by go_num,by rw [hs.out];simp [h1,h2]⟩
     case measure=>simp [intOf];omega
    ·go_wp2
     go_ret
     exact⟨Z0b (by rw [Z4z lo hi l (k+1) (by rw [hs.out];simp;omega)]),rfl⟩
   ·go_wp2
    go_ret
    exact⟨Z0b (by rw [Z4z lo hi l (k+1) (by rw [hs.out];simp;omega)]),rfl⟩
  ·obtain rfl:k=l.length:=by omega
   rw [List.take_length] at hI
   go_wp2
   go_ret
   exact⟨Z0b hI.out.symm,rfl⟩
theorem Z6y {n:Nat} (w:World) (a:Int) (E:TypeId) (hn:n=w.heap.size):rdI (w.alloc (.cells #[.int .i64 a] E)) (.slice (some ⟨n,0,none⟩) 1 1) [a]:=by
 subst hn
 exact⟨_,_,rfl,by simp,by decide,fun _=>⟨w.heap.size,0,rfl,fun j hj=>by match j,hj with | 0,_=>simp⟩⟩
theorem Z8s {n:Nat} (w:World) (a b:Int) (E:TypeId) (hn:n=w.heap.size):rdI (w.alloc (.cells #[.int .i64 a, .int .i64 b] E)) (.slice (some ⟨n,0,none⟩) 2 2) [a,b]:=by
 subst hn
 exact⟨_,_,rfl,by simp,by decide,fun _=>⟨w.heap.size,0,rfl,fun j hj=>by match j,hj with | 0,_=>simp | 1,_=>simp⟩⟩
theorem Z4b (e:Ent) (w:World) :
  Calls Tryz.prog 187 #[e.val] w fun x w'=>x=.returned (.bool (Z2l e))∧Below w.heap.size w w':=by
 rw [Zc4]
 obtain⟨a1,a2,a3,a4,a5,a6,a7⟩:=e
 simp only [Ent.val]
 go_enter Tryz.func187,Tryz.ntmps187
 go_wp2_with fail
 refine (Zdy _ _ _ [a1] _ (Z6y _ _ _ (by simp))).mono ?_
 rintro e w1 ⟨rfl,rfl⟩
 cases h1:inB 1 7 [a1]
 ·go_wp2
  go_ret
  exact⟨Z0b (by simp [h1]),by go_grown⟩
 ·go_wp2_with fail
  refine (Zdy _ _ _ [a2,a3] _ (Z8s _ _ _ _ (by simp))).mono ?_
  rintro e w1 ⟨rfl,rfl⟩
  cases h2:inB 1 1099511627776 [a2,a3]
  ·go_wp2
   go_ret
   exact⟨Z0b (by simp [h2]),by go_grown⟩
  ·go_wp2_with fail
   refine (Zdy _ _ _ [a4,a5] _ (Z8s _ _ _ _ (by simp))).mono ?_
   rintro e w1 ⟨rfl,rfl⟩
   cases h3:inB 0 2 [a4,a5]
   ·go_wp2
    go_ret
    exact⟨Z0b (by simp [h3]),by go_grown⟩
   ·go_wp2_with fail
    refine (Zdy _ _ _ [a6] _ (Z6y _ _ _ (by simp))).mono ?_
    rintro e w1 ⟨rfl,rfl⟩
    cases h4:inB 0 1099511627776 [a6]
    ·go_wp2
     go_ret
     exact⟨Z0b (by simp [h4]),by go_grown⟩
    ·go_wp2
     go_ret
     exact⟨Z0b (by simp [h1,h2,h3,h4]),by go_grown⟩
end
section
open Go.RowKit
theorem Z8t:(Tryz.prog.info? 134).map (fun i=>(i.zero,i.size,i.bytes))=some (some (Ent.val ⟨0,0,0,0,0,0,ByteArray.empty⟩),7,64):=by kernel_rfl
theorem Z8u (e:Ent):∀ u,u ∈ e.cells→u.oneCell'=true:=by
 intro u hu;simp [Ent.cells] at hu;rcases hu with rfl | rfl | rfl | rfl | rfl | rfl | rfl<;>rfl
end
section
open Go.RowKit
def Z5m (l:List Ent) (e:Ent):Bool:=l.any fun x=>Z35 x e
theorem Za0 (l:List Ent) (e:Ent) (k:Nat) (h:k<l.length):Z5m (l.take (k+1)) e=(Z5m (l.take k) e||Z35 l[k] e):=by
 unfold Z5m;rw [List.take_succ_eq_append_getElem h,List.any_append];simp
theorem Za1 (l:List Ent) (e:Ent) (k:Nat) (h:Z5m (l.take k) e=true):Z5m l e=true:=by
 unfold Z5m at h ⊢
 rw [← List.take_append_drop k l,List.any_append,h,Bool.true_or]
def Z2j:List Ent→List Ent→Bool
 | [],[]=>true
 | a :: l,b :: m=>eqE a b&&Z2j l m
 | _,_=>false
theorem Zhi {l m:List Ent} (h:Z2j l m=true):l.length=m.length:=by
 induction l generalizing m with
 | nil=>cases m with | nil=>rfl | cons=>simp [Z2j] at h
 | cons a l ih=>cases m with
   | nil=>simp [Z2j] at h
   | cons b m=>simp [Z2j] at h;simp [ih h.2]
theorem Zdz {l m:List Ent} (h:l.length≠m.length):Z2j l m=false:=by
 cases e:Z2j l m with
 | false=>rfl
 | true=>exact absurd (Zhi e) h
theorem Z5n {l m:List Ent} (k:Nat) (h:k<l.length) (h':k<m.length):Z2j (l.take (k+1)) (m.take (k+1))=(Z2j (l.take k) (m.take k)&&eqE l[k] m[k]):=by
 induction k generalizing l m with
 | zero=>
   cases l with
   | nil=>simp at h
   | cons a l=>cases m with
     | nil=>simp at h'
     | cons b m=>simp [Z2j]
 | succ k ih=>
   cases l with
   | nil=>simp at h
   | cons a l=>cases m with
     | nil=>simp at h'
     | cons b m=>
       simp only [List.take_succ_cons,Z2j,List.getElem_cons_succ]
       rw [ih (by simpa using h) (by simpa using h'),Bool.and_assoc]
theorem Z6z {l m:List Ent} (k:Nat) (h:k≤l.length) (h':k≤m.length) (hf:Z2j (l.take k) (m.take k)=false):Z2j l m=false:=by
 induction k generalizing l m with
 | zero=>simp [Z2j] at hf
 | succ k ih=>
   cases l with
   | nil=>simp at h
   | cons a l=>cases m with
     | nil=>simp at h'
     | cons b m=>
       simp only [List.take_succ_cons,Z2j,Bool.and_eq_false_iff] at hf ⊢
       exact hf.imp id fun hf=>ih (by simpa using h) (by simpa using h') hf
end
section
open Go.RowKit
theorem Z1o {w wr:World} {b off k:Nat} {e:Ent} (hc:cellsE w b (off+k*7) e) (hb:Below w.heap.size w wr):cellsE wr b (off+k*7) e:=hc.below hb hc.lt
theorem Zc5 (x e:Ent) (b:Nat) (w:World) (h:cellsE w b 0 e) :
  Calls Tryz.prog 218 #[x.val, .pointer (some ⟨b,0,none⟩)] w fun r w'=>r=.returned (.bool (Z35 x e))∧Below w.heap.size w w':=by
 have hlt:=h.lt
 obtain⟨c0,c1,c2,c3,c4,c5,c6⟩:=h
 rw [Nat.zero_add] at c1 c2 c3 c4 c5 c6
 obtain⟨a1,a2,a3,a4,a5,a6,a7⟩:=x
 simp only [Ent.val]
 go_enter Tryz.func218,Tryz.ntmps218
 go_wp2_with fail
 refine (Z51 ⟨a1,a2,a3,a4,a5,a6,a7⟩ e _).mono ?_
 rintro r w1 ⟨rfl,hb⟩;go_wp2
 go_ret
 exact⟨rfl,((Below.refl _ _).alloc (Nat.le_refl _) _).trans (hb.mono (by simp))⟩
theorem Zf7 (v:Value) (l:List Ent) (e:Ent) (b:Nat) (w:World) (hr:rdE w v l) (hb:cellsE w b 0 e) :
  Calls Tryz.prog 228 #[v, .func (.func 218) #[] #[.pointer (some ⟨b,0,none⟩)]] w fun r w'=>(∃ n:Int,r=.returned (.int .i64 n)∧decide (0≤n)=Z5m l e)∧Below w.heap.size w w':=by
 obtain⟨a,cap,rfl,hm,hM,ha⟩:=hr
 unfold maxLen at hM
 replace ha:=hd_ ha;replace hb:=hd_ hb
 go_enter Tryz.func228,Tryz.ntmps228
 go_wp2
 go_loopw [8] (fun i wr=>∃ k:Nat,k≤l.length∧i=.int .i64 k∧Z5m (l.take k) e=false∧Below w.heap.size w wr) (fun i _=>l.length-(intOf i).toNat)
 case atStart=>exact⟨0,Nat.zero_le _,rfl,rfl,Below.refl _ _⟩
 case round=>
  obtain⟨k,hk,rfl,d0,a0⟩:=hrel
  replace d0:=hd_ d0
  by_cases hlt:k<l.length
  ·obtain⟨bl,off,rfl,hc⟩:=ha.out (by omega)
   have f0:=Z1o (hc k hlt) a0
   have hs:=hd_ (Za0 l e k hlt)
   clear hc
   generalize l[k]=x at f0 hs
   obtain⟨c0,c1,c2,c3,c4,c5,c6⟩:=f0
   have g0:cellsE wr b 0 e:=hb.out.below a0 hb.out.lt
   go_wp2_with fail
   refine (Zc5 x e b _ g0).mono ?_
   rintro r w1 ⟨rfl,e0⟩
   have b0:=a0.trans (e0.mono a0.size)
   clear e0 a0 c0 c1 c2 c3 c4 c5 c6 g0
   cases hsm:Z35 x e
   ·go_wp2
    go_roundw
    case rel=>exact⟨k+1,by omega,by go_num,by rw [hs.out,d0.out,hsm];rfl,b0⟩
    case measure=>simp [intOf];omega
   ·go_wp2
    go_ret
    exact⟨⟨(k:Int),rfl,by rw [Za1 l e (k+1) (by rw [hs.out,hsm,Bool.or_true])];simp⟩,b0⟩
  ·obtain rfl:k=l.length:=by omega
   rw [List.take_length] at d0
   go_wp2
   go_ret
   exact⟨⟨-1,rfl,by rw [d0.out];rfl⟩,a0⟩
theorem Z8v (v:Value) (l:List Ent) (e:Ent) (b:Nat) (w:World) (hr:rdE w v l) (hb:cellsE w b 0 e) :
  Calls Tryz.prog 211 #[v, .func (.func 218) #[] #[.pointer (some ⟨b,0,none⟩)]] w fun r w'=>r=.returned (.bool (Z5m l e))∧Below w.heap.size w w':=by
 go_enter Tryz.func211,Tryz.ntmps211
 go_wp2_with fail
 refine (Zf7 v l e b w hr hb).mono ?_
 rintro r w1 ⟨⟨n,rfl,hn⟩,a0⟩;replace hn:=hd_ hn;go_wp2
 go_ret
 exact⟨Z0b hn.out,a0⟩
theorem Z2p (w:World) (e:Ent) (E:TypeId):cellsE (w.alloc (.cells #[.int .i64 e.frm, .int .i64 e.boot, .int .i64 e.seq, .int .i64 e.ord, .int .i64 e.lev, .int .i64 e.stamp, .string e.data] E)) w.heap.size 0 e:=by
 simp [cellsE]
theorem Z1z {w w':World} (o:Obj) (h:Below (w.alloc o).heap.size (w.alloc o) w'):Below w.heap.size w w':=
 ((Below.refl _ _).alloc (Nat.le_refl _) _).trans (h.mono (by simp))
end
section
open Go.RowKit
theorem Z7v (v v2:Value) (l m:List Ent) (w:World) (hr:rdE w v l) (hr2:rdE w v2 m) :
  Calls Tryz.prog 223 #[v,v2, .func (.func 224) #[] #[]] w fun r w'=>r=.returned (.bool (Z2j l m))∧Below w.heap.size w w':=by
 obtain⟨a,cap,rfl,hm,hM,ha⟩:=hr
 obtain⟨a2,o0,rfl,hm2,p0,h0⟩:=hr2
 unfold maxLen at hM p0
 by_cases hlen:l.length=m.length
 ·have l0:m.length≤l.length:=by omega
  have hle:l.length≤m.length:=by omega
  have m0:(((l.length:Nat):Int) != ((m.length:Nat):Int))=false:=by simp [hlen]
  clear hlen;replace ha:=hd_ ha;replace h0:=hd_ h0
  go_enter Tryz.func223,Tryz.ntmps223
  go_wp2
  go_loopw [17] (fun i wr=>∃ k:Nat,k≤l.length∧i=.int .i64 k∧Z2j (l.take k) (m.take k)=true∧Below w.heap.size w wr) (fun i _=>l.length-(intOf i).toNat)
  case atStart=>exact⟨0,Nat.zero_le _,rfl,rfl,Below.refl _ _⟩
  case round=>
   obtain⟨k,hk,rfl,g0,a0⟩:=hrel
   replace g0:=hd_ g0
   by_cases hlt:k<l.length
   ·have f0:k<m.length:=by omega
    obtain⟨bl,off,rfl,hc⟩:=ha.out (by omega)
    obtain⟨bl2,off2,rfl,k0⟩:=h0.out (by omega)
    have i0:=Z1o (hc k hlt) a0
    have e0:=Z1o (k0 k f0) a0
    have hs:=hd_ (Z5n k hlt f0)
    clear hc k0
    generalize l[k]=x at i0 hs
    generalize m[k]=y at e0 hs
    have hbl:=i0.lt
    have q0:=e0.lt
    obtain⟨c0,c1,c2,c3,c4,c5,c6⟩:=i0
    obtain⟨d0,d1,d2,d3,d4,d5,d6⟩:=e0
    go_wp2_with fail
    refine (eq_any x y _).mono ?_
    rintro r w1 ⟨rfl,j0⟩
    have b0:=a0.trans (Below.mono (Z1z _ (Z1z _ j0)) a0.size)
    clear j0 a0 c0 c1 c2 c3 c4 c5 c6 d0 d1 d2 d3 d4 d5 d6
    cases hsm:eqE x y
    ·go_wp2
     go_ret
     exact⟨Z0b (by rw [Z6z (k+1) (by omega) (by omega) (by rw [hs.out,hsm,Bool.and_false])]),b0⟩
    ·go_wp2
     go_roundw
     case rel=>exact⟨k+1,by omega,by go_num,by rw [hs.out,g0.out,hsm];rfl,b0⟩
     case measure=>simp [intOf];omega
   ·obtain rfl:k=l.length:=by omega
    rw [List.take_length,List.take_of_length_le l0] at g0
    go_wp2
    go_ret
    exact⟨Z0b g0.out.symm,a0⟩
 ·have n0:=Zdz hlen
  have m0:(((l.length:Nat):Int) != ((m.length:Nat):Int))=true:=by simp;omega
  go_enter Tryz.func223,Tryz.ntmps223
  go_wp2
  go_ret
  exact⟨Z0b n0.symm,Below.refl _ _⟩
theorem Zkf (v v2:Value) (l m:List Ent) (w:World) (hr:rdE w v l) (hr2:rdE w v2 m) :
  Calls Tryz.prog 50 #[v,v2] w fun r w'=>r=.returned (.bool (Z2j l m))∧Below w.heap.size w w':=by
 obtain⟨a,cap,rfl,hm,hM,ha⟩:=hr
 obtain⟨a2,q0,rfl,hm2,r0,i0⟩:=hr2
 unfold maxLen at hM r0
 by_cases hlen:l.length=m.length
 ·have n0:m.length≤l.length:=by omega
  have hle:l.length≤m.length:=by omega
  have o0:(((l.length:Nat):Int) != ((m.length:Nat):Int))=false:=by simp [hlen]
  clear hlen;replace ha:=hd_ ha;replace i0:=hd_ i0
  go_enter Tryz.func50,Tryz.ntmps50
  go_wp2
  go_loopw [5] (fun i wr=>∃ k:Nat,k≤l.length∧i=.int .i64 k∧Z2j (l.take k) (m.take k)=true∧Below w.heap.size w wr) (fun i _=>l.length-(intOf i).toNat)
  case atStart=>exact⟨0,Nat.zero_le _,rfl,rfl,Below.refl _ _⟩
  case round=>
   obtain⟨k,hk,rfl,g0,b0⟩:=hrel
   replace g0:=hd_ g0
   by_cases hlt:k<l.length
   ·have f0:k<m.length:=by omega
    obtain⟨bl,off,rfl,hc⟩:=ha.out (by omega)
    obtain⟨bl2,off2,rfl,m0⟩:=i0.out (by omega)
    have l0:=Z1o (hc k hlt) b0
    have h0:=Z1o (m0 k f0) b0
    have hs:=hd_ (Z5n k hlt f0)
    clear hc m0
    generalize l[k]=x at l0 hs
    generalize m[k]=y at h0 hs
    obtain⟨c0,c1,c2,c3,c4,c5,c6⟩:=l0
    obtain⟨d0,d1,d2,d3,d4,d5,d6⟩:=h0
    go_wp2
    go_still_tail 8,(by kernel_rfl)
    have a0:=b0.drew
    have j0:=a0.size
    clear b0 c0 c1 c2 c3 c4 c5 c6 d0 d1 d2 d3 d4 d5 d6
    change wpList _ _ _ _ _ wr.drew
    generalize wr.drew=w2 at a0 j0 ⊢
    go_wp2_with fail
    refine (req_any x y _).mono ?_
    rintro r w1 ⟨rfl,k0⟩
    have e0:=a0.trans (k0.mono j0)
    clear k0 a0
    cases hsm:eqE x y
    ·go_wp2
     go_ret
     exact⟨Z0b (by rw [Z6z (k+1) (by omega) (by omega) (by rw [hs.out,hsm,Bool.and_false])]),e0⟩
    ·go_wp2
     go_roundw
     case rel=>exact⟨k+1,by omega,by go_num,by rw [hs.out,g0.out,hsm];rfl,e0⟩
     case measure=>simp [intOf];omega
   ·obtain rfl:k=l.length:=by omega
    rw [List.take_length,List.take_of_length_le n0] at g0
    go_wp2
    go_ret
    exact⟨Z0b g0.out.symm,b0⟩
 ·have p0:=Zdz hlen
  have o0:(((l.length:Nat):Int) != ((m.length:Nat):Int))=true:=by simp;omega
  go_enter Tryz.func50,Tryz.ntmps50
  go_wp2
  go_ret
  exact⟨Z0b p0.symm,Below.refl _ _⟩
theorem Z8w {w:World} {a:Option Addr} {n cap:Nat} {l:List Ent} (h:rdE w (.slice a n cap) l) (k:Nat) (hk:k≤l.length):rdE w (.slice a k cap) (l.take k):=by
 obtain⟨a',a0,e,hm,hM,ha⟩:=h
 injection e with e1 e2 e3
 subst e1 e3
 have hl:(l.take k).length=k:=by simp;omega
 refine⟨a,cap,by rw [hl],by omega,hM,fun h0=>?_⟩
 rw [hl] at h0
 obtain⟨b,off,rfl,hc⟩:=ha (by omega)
 refine⟨b,off,rfl,fun j hj=>?_⟩
 rw [List.getElem_take]
 exact hc j (by omega)
end
section
open Go.RowKit
theorem Z8x {w:World} {b off n cap:Nat} {l:List Ent} (h:rdE w (.slice (some ⟨b,off,none⟩) n cap) l) (k:Nat) (hk:k<l.length):rdE w (.slice (some ⟨b,off+k*7,none⟩) (n-k) (cap-k)) (l.drop k):=by
 obtain⟨a',a0,e,hm,hM,ha⟩:=h
 injection e with e1 e2 e3
 subst e1 e3 e2
 have hl:(l.drop k).length=l.length-k:=by simp
 refine⟨_,cap-k,by rw [hl],by omega,by omega,fun h0=>?_⟩
 obtain⟨b',off',e,hc⟩:=ha (by omega)
 injection e with e
 injection e with e1 e2
 subst e1 e2
 refine⟨b,_,rfl,fun j hj=>?_⟩
 rw [List.getElem_drop]
 have:=hc (k+j) (by omega)
 rw [Nat.add_mul,← Nat.add_assoc] at this
 exact this
theorem Zhj (l:List Ent):∀ u ∈ Z3i l,u.oneCell'=true:=by
 intro u hu
 obtain⟨e,_,hu⟩:=List.mem_flatMap.1 hu
 exact Z8u e u hu
theorem Zc6 {w:World} {b off:Nat} {l:List Ent} (h:∀ j (h:j<l.length),cellsE w b (off+j*7) l[j]) :
  ∀ j u,(Z3i l)[j]?=some u→w.cell? ((⟨b,off,none⟩:Addr).add j)=some u:=by
 intro j u hu
 have hj:j<l.length*7:=by
  have:=(List.getElem?_eq_some_iff.1 hu).1
  rw [Z50] at this;exact this
 have e:(⟨b,off,none⟩:Addr).add j=⟨b,off+j,none⟩:=by
  unfold Addr.add;split
  ·next h=>subst h;rfl
  ·rfl
 rw [e]
 have hq:j / 7<l.length:=by omega
 have hc:=h (j / 7) hq
 have hg:=Z6x l (j / 7) hq (j % 7) (by omega)
 rw [show j / 7*7+j % 7=j by omega,hu] at hg
 obtain⟨c0,c1,c2,c3,c4,c5,c6⟩:=hc
 have hr:j % 7=0∨j % 7=1∨j % 7=2∨j % 7=3∨j % 7=4∨j % 7=5∨j % 7=6:=by omega
 rcases hr with hr | hr | hr | hr | hr | hr | hr<;>rw [hr] at hg<;>injection hg with hg<;>subst hg
 ·rw [← c0];congr 2;omega
 ·rw [← c1];congr 2;omega
 ·rw [← c2];congr 2;omega
 ·rw [← c3];congr 2;omega
 ·rw [← c4];congr 2;omega
 ·rw [← c5];congr 2;omega
 ·rw [← c6];congr 2;omega
theorem Z2m (v:Value) (l:List Ent) (w:World) (hr:rdE w v l) (hB:l.length≤1000000) :
  Calls Tryz.prog 148 #[v] w fun r w'=>∃ v',r=.returned v'∧ownE w' w.heap.size 134 v' l∧Below w.heap.size w w':=by
 obtain⟨i0,hi,l0,h0,g0⟩:=info_parts Z8t
 obtain⟨a,d0,rfl,hm,hM,ha⟩:=hr
 unfold maxLen at hM
 cases a with
 | none=>
   have hl:l=[]:=by
    cases l with
    | nil=>rfl
    | cons x l=>obtain⟨_,_,h,_⟩:=ha (by simp);cases h
   subst hl
   have f0:=fun (w:World)=>Lib.run_eql_slice_nil (P:=Tryz.prog) w 35 134 none 0 d0 0 0 Tryz.underlying35
   clear ha
   go_enter Tryz.func148,Tryz.ntmps148
   go_wp2
   go_ret
   exact⟨_,rfl,World.ownsRow_nil _ _ _ _,Below.refl _ _⟩
 | some x=>
   have e0:∀ j u,(Z3i l)[j]?=some u→w.cell? (x.add j)=some u∧x.block<w.heap.size:=by
    intro j u hu
    have hl:0<l.length:=by
     cases l with
     | nil=>simp [Z3i] at hu
     | cons x l=>simp
    obtain⟨b,off,e,hc⟩:=ha hl
    injection e with e
    subst e
    exact⟨Zc6 hc j u hu,(hc 0 hl).lt⟩
   replace e0:=hd_ e0;clear ha
   have k0:=hd_ (Z50 l)
   have a0:=World.ownsRow_made (base:=w.heap.size) (e:=134) (size:=7) w #[] 0 (Nat.le_refl _) (Nat.zero_le _) rfl
   replace a0:=hd_ a0
   have f0:=fun (w:World)=>Lib.run_eql_slice_nil (P:=Tryz.prog) w 35 134 (some x) l.length d0 0 0 Tryz.underlying35
   go_enter Tryz.func148,Tryz.ntmps148
   go_wp2_with (first
    | (at_builtin;refine wpList_append_own _ rfl _ _ 35 rfl w.heap.size 134 i0 (Ent.val ⟨0,0,0,0,0,0,ByteArray.empty⟩) 7 64 Tryz.underlying35 hi l0 h0 g0 rfl (by decide) _ _ _ rfl a0.out x l.length d0 (Z3i l) rfl k0.out ?c1 ?c2 ?c3 ?c4 ?c5 ?_))
   case c1=>
    intro j u hu
    obtain⟨h1,h2⟩:=e0.out j u hu
    rw [← h1]
    exact ((Below.refl w.heap.size w).alloc (Nat.le_refl _) _).cell (by rw [show (x.add j).block=x.block by unfold Addr.add;split<;>rfl];exact h2)
   case c2=>exact Zhj l
   case c3=>unfold maxLen;omega
   case c4=>omega
   case c5=>simp
   intro v' w2 c0 b0 _
   have ho:ownE w2 w.heap.size 134 v' l:=c0
   have j0:Below w.heap.size w w2:=((Below.refl _ w).alloc (Nat.le_refl _) _).grown b0 (by simp) (fun k hk=>by simp [Value.ownBlock] at hk;omega)
   clear c0 b0;go_wp2
   go_ret
   exact⟨_,rfl,ho,j0⟩
def rdLog (w:World) (b:Nat) (l:List Ent):Prop:=∃ v,w.cell? ⟨b,0,none⟩=some v∧rdE w v l
theorem Z0m (b:Nat) (l:List Ent) (w:World) (hr:rdLog w b l) :
  Calls Tryz.prog 147 #[.pointer (some ⟨b,0,none⟩)] w fun r w'=>r=.returned (.int .i64 l.length)∧w=w':=by
 obtain⟨v,hv,hr⟩:=hr
 obtain⟨a,cap,rfl⟩:=hr.len
 go_enter Tryz.func147,Tryz.ntmps147
 go_wp2
 go_ret
 exact⟨rfl,rfl⟩
theorem rdLog.grow {w w':World} {b:Nat} {l:List Ent} (h:rdLog w b l) (hb:Below w.heap.size w w'):rdLog w' b l:=by
 obtain⟨v,hv,hr⟩:=h
 refine⟨v,?_,hr.grow hb⟩
 rw [← hv];exact hb.cell (Z0f hv)
abbrev Zh1:Ent:=⟨0,0,0,0,0,0,⟨#[]⟩⟩
abbrev boxZ (E:TypeId):Obj:=.cells #[.int .i64 0, .int .i64 0, .int .i64 0, .int .i64 0, .int .i64 0, .int .i64 0, .string ⟨#[]⟩] E
theorem logAt_no (b:Nat) (l:List Ent) (i:Int) (w:World) (hr:rdLog w b l) (h:¬ (1≤i∧i≤l.length)) :
  Calls Tryz.prog 182 #[.pointer (some ⟨b,0,none⟩), .int .i64 i] w fun r w'=>r=.returned (.tuple #[Zh1.val, .bool false])∧Below w.heap.size w w':=by
 have hg:=hd_ (hr.grow ((Below.refl _ w).alloc (Nat.le_refl _) (boxZ 134)))
 clear hr
 by_cases h1:1≤i
 ·have h2:(l.length:Int)<i:=by omega
  clear h
  go_enter Tryz.func182,Tryz.ntmps182
  go_wp2_with fail
  refine (Z0m b l _ hg.out).mono ?_
  rintro r w1 ⟨rfl,rfl⟩;go_wp2
  exact bodyPost_ret (v:=.tuple #[.agg #[.int .i64 0, .int .i64 0, .int .i64 0, .int .i64 0, .int .i64 0, .int .i64 0, .string ⟨#[]⟩], .bool false]) (by simp [results,Tryz.results182,go_sem]) rfl ⟨rfl,by go_grown⟩
 ·clear h
  go_enter Tryz.func182,Tryz.ntmps182
  go_wp2
  exact bodyPost_ret (v:=.tuple #[.agg #[.int .i64 0, .int .i64 0, .int .i64 0, .int .i64 0, .int .i64 0, .int .i64 0, .string ⟨#[]⟩], .bool false]) (by simp [results,Tryz.results182,go_sem]) rfl ⟨rfl,by go_grown⟩
theorem Za2 (b:Nat) (l:List Ent) (k:Nat) (w:World) (hr:rdLog w b l) (h:k<l.length) :
  Calls Tryz.prog 182 #[.pointer (some ⟨b,0,none⟩), .int .i64 ((k:Int)+1)] w fun r w'=>r=.returned (.tuple #[l[k].val, .bool true])∧Below w.heap.size w w':=by
 have hg:=hr.grow ((Below.refl _ w).alloc (Nat.le_refl _) (boxZ 134))
 have b0:=hd_ hg
 clear hr
 obtain⟨v,hv,a,cap,rfl,hm,hM,ha⟩:=hg
 unfold maxLen at hM
 obtain⟨bl,off,rfl,hc⟩:=ha (by omega)
 have a0:=hc k h
 clear ha hc
 generalize l[k]=x at a0
 have hbl:=a0.lt
 obtain⟨c0,c1,c2,c3,c4,c5,c6⟩:=a0
 obtain⟨x0,x1,x2,x3,x4,x5,x6⟩:=x
 simp only [Ent.val]
 have hkk:((k:Int)+1-1).toNat=k:=by omega
 go_enter Tryz.func182,Tryz.ntmps182
 go_wp2_with fail
 refine (Z0m b l _ b0.out).mono ?_
 rintro r w1 ⟨rfl,rfl⟩;go_wp2
 exact bodyPost_ret (v:=.tuple #[.agg #[.int .i64 x0, .int .i64 x1, .int .i64 x2, .int .i64 x3, .int .i64 x4, .int .i64 x5, .string x6], .bool true]) (by simp [results,Tryz.results182,go_sem]) rfl ⟨rfl,by go_grown⟩
def Z4o (l:List Ent) (at_:Int):List Ent:=if at_<0 then [] else l.drop at_.toNat
theorem Z19 (b:Nat) (l:List Ent) (k:Int) (w:World) (hr:rdLog w b l) (hB:l.length≤1000000) :
  Calls Tryz.prog 84 #[.pointer (some ⟨b,0,none⟩), .int .i64 k] w fun r w'=>∃ v',r=.returned v'∧ownE w' w.heap.size 134 v' (Z4o l k)∧Below w.heap.size w w':=by
 have b0:=hd_ hr
 by_cases h0:k<0
 ·have e:Z4o l k=[]:=by simp [Z4o,h0]
  rw [e]
  clear hr
  go_enter Tryz.func84,Tryz.ntmps84
  go_wp2
  go_ret
  exact⟨_,rfl,World.ownsRow_nil _ _ _ _,Below.refl _ _⟩
 ·obtain⟨K,rfl⟩:=Int.eq_ofNat_of_zero_le (show 0≤k by omega)
  have e:Z4o l (K:Int)=l.drop K:=by rw [Z4o,if_neg h0,Int.toNat_natCast]
  rw [e]
  clear e h0
  by_cases h1:K<l.length
  ·obtain⟨v,hv,hr⟩:=hr
   have a0:=hr
   obtain⟨a,c0,rfl,hm,hM,ha⟩:=hr
   unfold maxLen at hM
   obtain⟨bl,off,rfl,_⟩:=ha (by omega)
   have hd:=hd_ (Z8x a0 K h1)
   clear a0 ha
   have hne:¬ c0=K:=by omega
   go_enter Tryz.func84,Tryz.ntmps84
   go_wp2_with fail
   refine (Z0m b l _ b0.out).mono ?_
   rintro r w1 ⟨rfl,rfl⟩;go_wp2_with fail
   refine (Z2m _ (l.drop K) _ hd.out (by simp;omega)).mono ?_
   rintro r w1 ⟨v',rfl,ho,hb⟩;go_wp2
   go_ret
   exact⟨_,rfl,ho,hb⟩
  ·have e:l.drop K=[]:=List.drop_eq_nil_of_le (by omega)
   rw [e]
   clear hr
   go_enter Tryz.func84,Tryz.ntmps84
   go_wp2_with fail
   refine (Z0m b l _ b0.out).mono ?_
   rintro r w1 ⟨rfl,rfl⟩;go_wp2
   go_ret
   exact⟨_,rfl,World.ownsRow_nil _ _ _ _,Below.refl _ _⟩
theorem Z87 (b:Nat) (l:List Ent) (e:Ent) (w:World) (hr:rdLog w b l) :
  Calls Tryz.prog 190 #[.pointer (some ⟨b,0,none⟩),e.val] w fun r w'=>r=.returned (.bool (Z5m l e))∧Below w.heap.size w w':=by
 have hg:=hr.grow ((Below.refl _ w).alloc (Nat.le_refl _) (.cells #[.int .i64 e.frm, .int .i64 e.boot, .int .i64 e.seq, .int .i64 e.ord, .int .i64 e.lev, .int .i64 e.stamp, .string e.data] 134))
 obtain⟨v,hv,hr⟩:=hg
 have hx:=hd_ hr
 clear hr
 have a0:=hd_ (Z2p w e 134)
 simp only [Ent.val]
 go_enter Tryz.func190,Tryz.ntmps190
 go_wp2_with fail
 refine (Z8v v l e w.heap.size _ hx.out a0.out).mono ?_
 rintro r w1 ⟨rfl,hb⟩;go_wp2
 go_ret
 exact⟨rfl,Z1z _ hb⟩
end
section
open Go.RowKit
def Gr (F:Nat→Prop) (w w':World):Nat→Prop:=fun k=>F k∨(w.heap.size≤k∧k<w'.heap.size)
theorem Chg.trans {F:Nat→Prop} {a b c:World} (h:Chg F a b) (k:Chg (Gr F a b) b c):Chg F a c:=
 ⟨k.os.trans h.os,k.tape.trans h.tape,k.output.trans h.output,Nat.le_trans h.size k.size,fun i hi hF=>
  (k.block i (Nat.lt_of_lt_of_le hi h.size) (fun g=>g.elim hF fun g=>Nat.not_le.2 hi g.1)).trans (h.block i hi hF)⟩
theorem Z2i {w:World} {b:Nat} {o:Obj} (h:w.heap[b]?=some o):b<w.heap.size:=(Array.getElem?_eq_some_iff.1 h).1
def lgO (w:World) (F:Nat→Prop) (b:Nat) (l:List Ent):Prop:=
 F b∧∃ v,w.heap[b]?=some (.cells #[v] 191 (0,0))∧ownE w 0 134 v l∧∀ k,v.ownBlock=some k→F k
theorem ownE.lt {w:World} {base:Nat} {E:TypeId} {v:Value} {l:List Ent} (h:ownE w base E v l):∀ k,v.ownBlock=some k→base≤k∧k<w.heap.size:=World.ownsRow.lt h
theorem ownE.chg {w w':World} {F:Nat→Prop} {base:Nat} {E:TypeId} {v:Value} {l:List Ent} (h:ownE w base E v l) (hc:Chg F w w') (hn:∀ k,v.ownBlock=some k→¬ F k):ownE w' base E v l:=by
 obtain⟨h1,h2⟩:=h
 refine⟨h1,h2.imp id ?_⟩
 rintro⟨g,cap,cur,rfl,e2,e3,e4,e5,e6,e7⟩
 exact⟨g,cap,cur,rfl,e2,by rw [hc.block g (Z2i e3) (hn g rfl)];exact e3,e4,e5,e6,e7⟩
theorem rdE.chg {w w':World} {F:Nat→Prop} {v:Value} {l:List Ent} (h:rdE w v l) (hc:Chg F w w') (hn:∀ k,v.ownBlock=some k→¬ F k):rdE w' v l:=by
 obtain⟨a,b0,rfl,hm,hM,ha⟩:=h
 refine⟨a,b0,rfl,hm,hM,fun h0=>?_⟩
 obtain⟨b,off,rfl,a0⟩:=ha h0
 refine⟨b,off,rfl,fun j hj=>?_⟩
 have c0:=(a0 j hj).lt
 have k:∀ o,w'.cell? ⟨b,o,none⟩=w.cell? ⟨b,o,none⟩:=fun o=>World.cell?_of_block (w:=w) (a:=⟨b,o,none⟩) (hc.block b c0 (hn b rfl))
 have:=a0 j hj
 unfold cellsE at this ⊢
 simp only [k];exact this
theorem lgO.rd {w:World} {F:Nat→Prop} {b:Nat} {l:List Ent} (h:lgO w F b l):rdLog w b l:=by
 obtain⟨_,v,hb,ho,_⟩:=h
 exact⟨v,by simp [World.cell?,hb],ho.rd⟩
theorem lgO.lt {w:World} {F:Nat→Prop} {b:Nat} {l:List Ent} (h:lgO w F b l):b<w.heap.size:=by
 obtain⟨_,v,hb,_⟩:=h;exact Z2i hb
theorem lgO.grow {w w':World} {F:Nat→Prop} {b:Nat} {l:List Ent} (h:lgO w F b l) (hb:Below w.heap.size w w'):lgO w' F b l:=by
 obtain⟨hF,v,h1,h2,h3⟩:=h
 exact⟨hF,v,by rw [hb.block b (Z2i h1)];exact h1,Z0z h2 hb,h3⟩
theorem lgO.mono {w:World} {F G:Nat→Prop} {b:Nat} {l:List Ent} (h:lgO w F b l) (hF:∀ k,F k→G k):lgO w G b l:=by
 obtain⟨h0,v,h1,h2,h3⟩:=h
 exact⟨hF _ h0,v,h1,h2,fun k hk=>hF k (h3 k hk)⟩
theorem lgO.chg {w w':World} {F G:Nat→Prop} {b:Nat} {l:List Ent} (h:lgO w F b l) (hc:Chg G w w') (hn:∀ k,F k→¬ G k):lgO w' F b l:=by
 obtain⟨h0,v,h1,h2,h3⟩:=h
 exact⟨h0,v,by rw [hc.block b (Z2i h1) (hn b h0)];exact h1,h2.chg hc fun k hk=>hn k (h3 k hk),h3⟩
def lateE (l:List Ent) (e:Ent):Bool:=match l.getLast? with | some x=>decide (e.stamp<x.stamp) | none=>false
def Z3a (l:List Ent) (e:Ent):Bool:=Z2l e && !Z5m l e&&decide (l.length<60) && !lateE l e
def Z88 (l:List Ent) (e:Ent):List Ent:=if Z3a l e then l++[e] else l
theorem addE_len (l:List Ent) (e:Ent) (h:l.length≤60):(Z88 l e).length≤60:=by
 unfold Z88;split
 ·next h=>simp [Z3a] at h;simp;omega
 ·exact h
theorem Z89 {l:List Ent} {k:Nat} (h:l.length=k+1) (e:Ent):lateE l e=decide (e.stamp<(l[k]'(by omega)).stamp):=by
 unfold lateE
 rw [List.getLast?_eq_getElem?,List.getElem?_eq_getElem (by omega)]
 simp [h]
theorem Za3 {w w4 w5:World} {F:Nat→Prop} {b gg n cap1:Nat} {v:Value} {X:Obj} {l':List Ent}
  (hbw:b<w.heap.size) (hB4:Below w.heap.size w w4) (hFb:F b) (hvF:∀ k,v.ownBlock=some k→F k) (hvb:w4.heap[b]?=some (.cells #[v] 191 (0,0)))
  (hvn:v.ownBlock≠some b) (hn:n=l'.length) (hown:w5.ownsRow 0 134 7 (.slice (some ⟨gg,0,none⟩) n cap1) n (Z3i l'))
  (hgrow:(w4.alloc X).drew.grownBy w5 v.ownBlock) (hat:v.ownBlock=some gg∨gg=w4.heap.size+1) (hlt5:gg<w5.heap.size) :
  lgO (w5.setCell ⟨b,0,none⟩ (.slice (some ⟨gg,0,none⟩) n cap1)) (Gr F w (w5.setCell ⟨b,0,none⟩ (.slice (some ⟨gg,0,none⟩) n cap1))) b l' ∧
   Chg F w (w5.setCell ⟨b,0,none⟩ (.slice (some ⟨gg,0,none⟩) n cap1)):=by
 have b0:(w5.setCell ⟨b,0,none⟩ (.slice (some ⟨gg,0,none⟩) n cap1)).heap.size=w5.heap.size:=World.size_setCell _ _ _
 have h4:w4.heap.size+1≤w5.heap.size:=by have:=hgrow.size;simpa using this
 have h04:=hB4.size
 have a0:∀ k,k<w4.heap.size→some k≠v.ownBlock→w5.heap[k]?=w4.heap[k]?:=fun k hk hne=>by
  rw [hgrow.block k (by simp;omega) hne]
  exact Below.heap_alloc w4 X k hk
 have c0:w5.heap[b]?=some (.cells #[v] 191 (0,0)):=by rw [a0 b (by omega) (Ne.symm hvn)];exact hvb
 have d0:gg≠b:=by
  rintro rfl
  rcases hat with h | h
  ·exact hvn h
  ·omega
 subst hn
 refine⟨⟨.inl hFb,_,one_setCell c0,ownsRow_setCell_other hown (by intro hk;injection hk with hk;exact d0 hk) _,?_⟩,?_⟩
 ·intro k hk
  injection hk with hk
  have hk:gg=k:=hk
  subst hk
  rcases hat with h | h
  ·exact .inl (hvF _ h)
  ·exact .inr ⟨by omega,by rw [b0];exact hlt5⟩
 ·refine⟨hgrow.os.trans hB4.os,hgrow.tape.trans hB4.tape,hgrow.output.trans hB4.output,by rw [b0];omega,fun k hk hF=>?_⟩
  rw [Below.heap_setCell _ _ _ _ (fun e=>hF (by rw [show k=b from e];exact hFb)),a0 k (by omega) (fun e=>hF (hvF k e.symm))]
  exact hB4.block k hk
end
section
open Go.RowKit
abbrev boxE (e:Ent):Obj:=.cells #[.int .i64 e.frm, .int .i64 e.boot, .int .i64 e.seq, .int .i64 e.ord, .int .i64 e.lev, .int .i64 e.stamp, .string e.data] 134
theorem lgO.end_ {w w':World} {F:Nat→Prop} {b:Nat} {l:List Ent} (h:lgO w F b l) (hb:Below w.heap.size w w'):lgO w' (Gr F w w') b l∧Chg F w w':=
 ⟨(h.grow hb).mono fun _ f=>.inl f, .of_below hb⟩
theorem Zhk (b:Nat) (l:List Ent) (e:Ent) (F:Nat→Prop) (w:World) (hr:lgO w F b l) (hl:l.length≤60) (hno:Z3a l e=false) :
  Calls Tryz.prog 152 #[.pointer (some ⟨b,0,none⟩),e.val] w fun r w'=>r=.returned (.bool false)∧Below w.heap.size w w':=by
 have p0:=hd_ (Z2p w e 134)
 have h1:=hd_ (hr.grow ((Below.refl _ w).alloc (Nat.le_refl _) (boxE e)))
 have b0:Below w.heap.size w (w.alloc (boxE e)):=(Below.refl _ w).alloc (Nat.le_refl _) (boxE e)
 have b0:=hd_ b0
 clear hr
 simp only [Ent.val]
 go_enter Tryz.func152,Tryz.ntmps152
 go_wp2_with fail
 refine (Z4b e _).mono ?_
 rintro r w1 ⟨rfl,f0⟩
 have c0:=hd_ (p0.out.below f0 p0.out.lt)
 have j0:=b0.out.trans (f0.mono b0.out.size)
 have h2:=hd_ (h1.out.grow f0)
 clear f0 h1 b0
 obtain⟨d0,d1,d2,d3,d4,d5,d6⟩:=c0.out
 rw [Nat.zero_add] at d1 d2 d3 d4 d5 d6
 cases hm:Z2l e
 ·go_wp2
  go_ret
  exact⟨rfl,j0⟩
 ·go_wp2_with fail
  refine (Z87 b l e _ h2.out.rd).mono ?_
  rintro r w2 ⟨rfl,i0⟩
  have a0:=j0.trans (i0.mono j0.size)
  have g0:=hd_ (c0.out.below i0 c0.out.lt)
  have h3:=hd_ (h2.out.grow i0)
  clear i0 h2 j0 d0 d1 d2 d3 d4 d5 d6 c0
  obtain⟨d0,d1,d2,d3,d4,d5,d6⟩:=g0.out
  rw [Nat.zero_add] at d1 d2 d3 d4 d5 d6
  cases hh:Z5m l e
  ·obtain⟨v,hv,s0⟩:=h3.out.rd
   obtain⟨a,cap,rfl⟩:=s0.len
   clear s0
   by_cases h60:l.length<60
   ·have k0:lateE l e=true:=by simp [Z3a,hm,hh,h60] at hno;exact hno
    by_cases h0:l.length=0
    ·have:l=[]:=List.length_eq_zero_iff.1 h0
     subst this
     cases k0
    ·obtain⟨k,m0⟩:∃ k,l.length=k+1:=⟨l.length-1,by omega⟩
     rw [m0] at hv h60 hl
     have o0:k<l.length:=by omega
     have l0:e.stamp<(l[k]'o0).stamp:=by
      have:=(Z89 m0 e).symm.trans k0
      simpa using this
     clear m0 k0 hno h0;go_wp2_with fail
     refine (Za2 b l k _ h3.out.rd o0).mono ?_
     rintro r w3 ⟨rfl,n0⟩
     have q0:=a0.trans (n0.mono a0.size)
     have r0:=g0.out.below n0 g0.out.lt
     have hxl:=r0.lt
     obtain⟨e0,e1,e2,e3,e4,e5,e6⟩:=r0
     rw [Nat.zero_add] at e1 e2 e3 e4 e5 e6
     clear n0 a0 g0 d0 d1 d2 d3 d4 d5 d6 hv
     generalize l[k]=y at l0 ⊢
     go_wp2
     go_ret
     exact⟨rfl,q0.alloc q0.size _⟩
   ·go_wp2
    go_ret
    exact⟨rfl,a0⟩
  ·go_wp2
   go_ret
   exact⟨rfl,a0⟩
theorem Zf8 (b:Nat) (l:List Ent) (e:Ent) (F:Nat→Prop) (w:World) (hr:lgO w F b l) (hok:Z3a l e=true) :
  Calls Tryz.prog 152 #[.pointer (some ⟨b,0,none⟩),e.val] w fun r w'=>r=.returned (.bool true)∧lgO w' (Gr F w w') b (l++[e])∧Chg F w w':=by
 obtain⟨i0,hi,c2,z1,u1⟩:=info_parts Z8t
 simp only [Z3a,Bool.and_eq_true,Bool.not_eq_true',decide_eq_true_iff] at hok
 obtain⟨⟨⟨hm,hh⟩,y1⟩,j0⟩:=hok
 have b2:=hr.lt
 have a2:=hd_ (Z2p w e 134)
 have h1:=hd_ (hr.grow ((Below.refl _ w).alloc (Nat.le_refl _) (boxE e)))
 have a1:Below w.heap.size w (w.alloc (boxE e)):=(Below.refl _ w).alloc (Nat.le_refl _) (boxE e)
 replace a1:=hd_ a1
 have j0:=hd_ j0
 clear hr
 simp only [Ent.val]
 go_enter Tryz.func152,Tryz.ntmps152
 go_wp2_with fail
 refine (Z4b e _).mono ?_
 rintro r w1 ⟨rfl,g1⟩
 have f1:=hd_ (a2.out.below g1 a2.out.lt)
 have t1:=a1.out.trans (g1.mono a1.out.size)
 have h2:=hd_ (h1.out.grow g1)
 clear g1 h1 a1
 obtain⟨d0,d1,d2,d3,d4,d5,d6⟩:=f1.out
 rw [Nat.zero_add] at d1 d2 d3 d4 d5 d6
 go_wp2_with fail
 refine (Z87 b l e _ h2.out.rd).mono ?_
 rintro r w2 ⟨rfl,c1⟩
 have w0:=t1.trans (c1.mono t1.size)
 have r0:=hd_ (f1.out.below c1 f1.out.lt)
 have h3:=hd_ (h2.out.grow c1)
 clear c1 h2 t1 d0 d1 d2 d3 d4 d5 d6 f1
 obtain⟨d0,d1,d2,d3,d4,d5,d6⟩:=r0.out
 rw [Nat.zero_add] at d1 d2 d3 d4 d5 d6
 obtain⟨v,hv,x1⟩:=h3.out.rd
 obtain⟨a,g0,rfl⟩:=x1.len
 clear x1
 by_cases h0:l.length=0
 ·have:l=[]:=List.length_eq_zero_iff.1 h0
  subst this;go_wp2_with fail
  refine (logAt_no b [] 0 _ h3.out.rd (by simp)).mono ?_
  rintro r w3 ⟨rfl,n0⟩
  have s0:=w0.trans (n0.mono w0.size)
  have o0:=r0.out.below n0 r0.out.lt
  have h4:=h3.out.grow n0
  clear n0 w0 r0 d0 d1 d2 d3 d4 d5 d6 hv h3;go_wp2
  generalize hw4:World.alloc w3 _=w4
  have m0:Below w3.heap.size w3 w4:=hw4 ▸ (Below.refl _ _).alloc (Nat.le_refl _) _
  have k1:=s0.trans (m0.mono s0.size)
  have b1:=o0.below m0 o0.lt
  have h5:=h4.grow m0
  clear hw4 m0 s0 o0 h4
  have m1:=h5.rd
  obtain⟨p1,v,b0,k0,l1⟩:=h5
  have j1:∃ ao g0,v=.slice ao 0 g0:=k0.rd.len
  obtain⟨ao,g0,rfl⟩:=j1
  have q1:w4.cell? ⟨b,0,none⟩=some (.slice ao 0 g0):=by simp [World.cell?,b0]
  have o1:w.heap.size≠b:=by omega
  have u0:(Value.slice ao 0 g0).ownBlock≠some b:=by
   intro h
   obtain⟨h1,h2⟩:=k0
   rcases h2 with ⟨h3,_⟩ | ⟨g,c,g2,h3,_,h4,_⟩
   ·rw [h3] at h;cases h
   ·rw [h3] at h;injection h with h;subst h
    rw [h4] at b0;injection b0 with b0;injection b0 with _ h5;cases h5
  have i1:=b1.lt
  have n1:=Z2i b0
  have q0:w4.frozen? ⟨b,0,none⟩=false:=by simp [World.frozen?,b0]
  have l0:¬ b=w4.heap.size:=by omega
  obtain⟨e0,e1,e2,e3,e4,e5,e6⟩:=b1
  rw [Nat.zero_add] at e1 e2 e3 e4 e5 e6
  replace b0:=hd_ b0;replace k0:=hd_ k0;clear m1
  go_region_law
   ((refine step_append_lies _ (by rfl) _ _ _ (by rfl) 0 134 i0 _ 7 64 Tryz.underlying35 hi c2 z1 u1 rfl (by omega) (.slice ao 0 g0) 0 (Z3i []) (by rfl) ((World.ownsRow.alloc k0.out _).drew) ⟨w4.heap.size,0,none⟩ 1 1 e.cells (by rfl) (by rfl) (World.news_of_block (cs:=e.cells.toArray) (t:=134) (fr:=(0,0)) (heap_alloc_new w4 _)) (Z8u e) (by omega) (by unfold maxLen;omega) (by omega) (by simp) (w4.heap.size+1) (by simp) ?_;intro gg r1 w5 c0 a0 x0 p0;have t0:w5.frozen? ⟨b,0,none⟩=false:=(a0.frozen_far ⟨b,0,none⟩ (by simp<;>omega) (Ne.symm u0)).trans ((World.frozen?_alloc_old w4 _ ⟨b,0,none⟩ l0).trans q0);have v0:w5.cell? ⟨b,0,none⟩=some (.slice ao 0 g0):=(a0.cell_far ⟨b,0,none⟩ (by simp<;>omega) (Ne.symm u0)).trans ((World.cell?_alloc_old w4 _ ⟨b,0,none⟩ l0).trans q1)))
  all_goals
   have f0:=Za3 (n:=0+1) (l':=[]++[e]) b2 k1 p1 l1 b0.out u0 rfl (by rw [Z39];exact c0) a0 x0 p0
   replace f0:=hd_ f0;clear c0 a0 x0 t0 v0;go_wp2
   go_ret
   exact⟨rfl,f0.out⟩
 ·obtain⟨k,z0⟩:∃ k,l.length=k+1:=⟨l.length-1,by omega⟩
  have v1:k<l.length:=by omega
  have f2:=hv
  rw [z0] at hv
  have y0:¬ e.stamp<(l[k]'v1).stamp:=by
   have:=(Z89 z0 e).symm.trans j0.out
   simpa using this
  have HLN:=hd_ z0
  rw [z0] at y1
  go_wp2_with fail
  refine (Za2 b l k _ h3.out.rd v1).mono ?_
  rintro r w3 ⟨rfl,n0⟩
  have s0:=w0.trans (n0.mono w0.size)
  have o0:=r0.out.below n0 r0.out.lt
  have h4:=h3.out.grow n0
  have i1:=o0.lt
  have s1:=o0
  obtain⟨e0,e1,e2,e3,e4,e5,e6⟩:=s1
  rw [Nat.zero_add] at e1 e2 e3 e4 e5 e6
  clear n0 w0 r0 d0 d1 d2 d3 d4 d5 d6 hv h3 z0 h0 f2
  generalize l[k]=y at y0 ⊢
  replace y0:y.stamp≤e.stamp:=by omega
  have i2:l.length<60:=by rw [HLN.out];exact y1
  go_wp2;clear e0 e1 e2 e3 e4 e5 e6 i1
  generalize hw4:World.alloc w3 _=w4
  have m0:Below w3.heap.size w3 w4:=hw4 ▸ (Below.refl _ _).alloc (Nat.le_refl _) _
  have k1:=s0.trans (m0.mono s0.size)
  have b1:=o0.below m0 o0.lt
  have h5:=h4.grow m0
  clear hw4 m0 s0 o0 h4
  have m1:=h5.rd
  obtain⟨p1,v,b0,k0,l1⟩:=h5
  have j1:∃ ao g0,v=.slice ao l.length g0:=k0.rd.len
  obtain⟨ao,g0,rfl⟩:=j1
  have q1:w4.cell? ⟨b,0,none⟩=some (.slice ao l.length g0):=by simp [World.cell?,b0]
  have o1:w.heap.size≠b:=by omega
  have u0:(Value.slice ao l.length g0).ownBlock≠some b:=by
   intro h
   obtain⟨h1,h2⟩:=k0
   rcases h2 with ⟨h3,_⟩ | ⟨g,c,g2,h3,_,h4,_⟩
   ·rw [h3] at h;cases h
   ·rw [h3] at h;injection h with h;subst h
    rw [h4] at b0;injection b0 with b0;injection b0 with _ h5;cases h5
  have i1:=b1.lt
  have n1:=Z2i b0
  have q0:w4.frozen? ⟨b,0,none⟩=false:=by simp [World.frozen?,b0]
  have l0:¬ b=w4.heap.size:=by omega
  obtain⟨e0,e1,e2,e3,e4,e5,e6⟩:=b1
  rw [Nat.zero_add] at e1 e2 e3 e4 e5 e6
  replace b0:=hd_ b0;replace k0:=hd_ k0;clear m1
  go_region_law
   ((refine step_append_lies _ (by rfl) _ _ _ (by rfl) 0 134 i0 _ 7 64 Tryz.underlying35 hi c2 z1 u1 rfl (by omega) (.slice ao l.length g0) l.length (Z3i l) (by rfl) ((World.ownsRow.alloc k0.out _).drew) ⟨w4.heap.size,0,none⟩ 1 1 e.cells (by rfl) (by rfl) (World.news_of_block (cs:=e.cells.toArray) (t:=134) (fr:=(0,0)) (heap_alloc_new w4 _)) (Z8u e) (by omega) (by unfold maxLen;omega) (by omega) (by simp) (w4.heap.size+1) (by simp) ?_;intro gg r1 w5 c0 a0 x0 p0;have t0:w5.frozen? ⟨b,0,none⟩=false:=(a0.frozen_far ⟨b,0,none⟩ (by simp<;>omega) (Ne.symm u0)).trans ((World.frozen?_alloc_old w4 _ ⟨b,0,none⟩ l0).trans q0);have v0:w5.cell? ⟨b,0,none⟩=some (.slice ao l.length g0):=(a0.cell_far ⟨b,0,none⟩ (by simp<;>omega) (Ne.symm u0)).trans ((World.cell?_alloc_old w4 _ ⟨b,0,none⟩ l0).trans q1)))
  all_goals
   have f0:=Za3 (n:=l.length+1) (l':=l++[e]) b2 k1 p1 l1 b0.out u0 (by simp) (by rw [Z39];exact c0) a0 x0 p0
   replace f0:=hd_ f0;clear c0 a0 x0 t0 v0;go_wp2
   go_ret
   exact⟨rfl,f0.out⟩
end
section
open Go.RowKit
theorem Z5o (b:Nat) (l:List Ent) (e:Ent) (F:Nat→Prop) (w:World) (hr:lgO w F b l) (hl:l.length≤60) :
  Calls Tryz.prog 152 #[.pointer (some ⟨b,0,none⟩),e.val] w fun r w'=>r=.returned (.bool (Z3a l e))∧lgO w' (Gr F w w') b (Z88 l e)∧Chg F w w':=by
 cases h:Z3a l e
 ·refine (Zhk b l e F w hr hl h).mono ?_
  rintro r w' ⟨rfl,hb⟩
  have e:Z88 l e=l:=by rw [Z88,if_neg (by rw [h];exact Bool.false_ne_true)]
  rw [e]
  exact⟨rfl,hr.end_ hb⟩
 ·refine (Zf8 b l e F w hr h).mono ?_
  rintro r w' ⟨rfl,hb⟩
  have e:Z88 l e=l++[e]:=by rw [Z88,if_pos h]
  rw [e]
  exact⟨rfl,hb⟩
def Z2y (es:List Ent):List Ent:=es.foldl Z88 []
theorem Zhl (es:List Ent) (k:Nat) (h:k<es.length):Z2y (es.take (k+1))=Z88 (Z2y (es.take k)) es[k]:=by
 unfold Z2y;rw [List.take_succ_eq_append_getElem h,List.foldl_append];rfl
theorem Z8y (es:List Ent):∀ l:List Ent,l.length≤60→(es.foldl Z88 l).length≤60:=by
 induction es with
 | nil=>exact fun l h=>h
 | cons e es ih=>exact fun l h=>ih _ (addE_len l e h)
theorem Z2d (es:List Ent):(Z2y es).length≤60:=Z8y es [] (by simp)
abbrev News (w wr:World):Nat→Prop:=fun k=>w.heap.size≤k∧k<wr.heap.size
theorem Z1e (v:Value) (es:List Ent) (w:World) (hr:rdE w v es) :
  Calls Tryz.prog 92 #[v] w fun r w'=>∃ b,r=.returned (.pointer (some ⟨b,0,none⟩))∧w.heap.size≤b∧lgO w' (News w w') b (Z2y es)∧Below w.heap.size w w':=by
 obtain⟨a,cap,rfl,hm,hM,ha⟩:=hr
 unfold maxLen at hM
 replace ha:=hd_ ha
 have g0:Below w.heap.size w (w.alloc (.cells #[.slice none 0 0] 191)):=(Below.refl _ w).alloc (Nat.le_refl _) _
 have f0:lgO (w.alloc (.cells #[.slice none 0 0] 191)) (News w (w.alloc (.cells #[.slice none 0 0] 191))) w.heap.size []:=
  ⟨⟨Nat.le_refl _,by simp⟩,_,heap_alloc_new w _,World.ownsRow_nil _ _ _ _,fun k hk=>by cases hk⟩
 replace g0:=hd_ g0;replace f0:=hd_ f0
 go_enter Tryz.func92,Tryz.ntmps92
 go_wp2
 go_loopw [10] (fun i wr=>∃ k:Nat,k≤es.length∧i=.int .i64 k∧lgO wr (News w wr) w.heap.size (Z2y (es.take k))∧Below w.heap.size w wr) (fun i _=>es.length-(intOf i).toNat)
 case atStart=>exact⟨0,Nat.zero_le _,rfl,f0.out,g0.out⟩
 case round=>
  obtain⟨k,hk,rfl,d0,a0⟩:=hrel
  replace d0:=hd_ d0
  by_cases hlt:k<es.length
  ·obtain⟨bl,off,rfl,hc⟩:=ha.out (by omega)
   have h0:=Z1o (hc k hlt) a0
   have hs:=hd_ (Zhl es k hlt)
   clear hc
   generalize es[k]=x at h0 hs
   obtain⟨c0,c1,c2,c3,c4,c5,c6⟩:=h0
   have i0:=a0.size
   have e0:=Z2d (es.take k)
   have b0:∀ o,lgO (wr.alloc o) (News w (wr.alloc o)) w.heap.size (Z2y (es.take k)):=fun o=>
    (d0.out.grow ((Below.refl _ _).alloc (Nat.le_refl _) o)).mono fun k hk=>⟨hk.1,by simp;omega⟩
   replace b0:=hd_ b0;go_wp2_with fail
   refine (Z5o _ _ x _ _ (b0.out _) e0).mono ?_
   rintro r w1 ⟨rfl,h1,h2⟩
   have j0:Below w.heap.size w w1:=(a0.alloc i0 _).trans (h2.below (by simp;omega) fun k hk=>hk.1)
   have h3:lgO w1 (News w w1) w.heap.size (Z2y (es.take (k+1))):=by
    rw [hs.out]
    refine h1.mono fun k hk=>?_
    have:=h2.size
    rcases hk with hk | hk
    ·exact⟨hk.1,Nat.lt_of_lt_of_le hk.2 this⟩
    ·have:=hk.1;simp at this;exact⟨by omega,hk.2⟩
   clear h1 h2 a0 c0 c1 c2 c3 c4 c5 c6;go_wp2
   go_roundw
   case rel=>exact⟨k+1,by omega,by go_num,h3,j0⟩
   case measure=>simp [intOf];omega
  ·obtain rfl:k=es.length:=by omega
   rw [List.take_length] at d0
   go_wp2
   go_ret
   exact⟨_,rfl,Nat.le_refl _,d0.out,a0⟩
end
section
open Go.RowKit
def Z2g (l:List Ent) (K:Nat) (es:List Ent):Nat→Option (List Ent)
 | 0=>some l
 | i+1=>match Z2g l K es i with
   | none=>none
   | some m=>if i<l.length-K then (if eqE (l.getD (K+i) Zh1) (es.getD i Zh1) then some m else none) else (if Z3a m (es.getD i Zh1) then some (m++[es.getD i Zh1]) else none)
def Z6p (l:List Ent) (k:Int) (es:List Ent):Option (List Ent):=if k<0∨(l.length:Int)<k then none else Z2g l k.toNat es es.length
theorem Z8a {l:List Ent} {K:Nat} {es:List Ent} {i j:Nat} (h:Z2g l K es i=none) (hij:i≤j):Z2g l K es j=none:=by
 induction j with
 | zero=>have:i=0:=by omega
         subst this;exact h
 | succ j ih=>
   by_cases e:i=j+1
   ·rw [← e];exact h
   ·rw [Z2g,ih (by omega)]
theorem Z70 {l:List Ent} {K:Nat} {es:List Ent} {i:Nat} (hi:i≤l.length-K) (hi2:i≤es.length) :
  Z2g l K es i=if Z2j ((l.drop K).take i) (es.take i) then some l else none:=by
 induction i with
 | zero=>simp [Z2g,Z2j]
 | succ i ih=>
   rw [Z2g,ih (by omega) (by omega),Z5n i (by simp;omega) (by omega)]
   have e1:l.getD (K+i) Zh1=(l.drop K)[i]'(by simp;omega):=by
    rw [List.getElem_drop,List.getD_eq_getElem?_getD,List.getElem?_eq_getElem (by omega)];rfl
   have e2:es.getD i Zh1=es[i]'(by omega):=by
    rw [List.getD_eq_getElem?_getD,List.getElem?_eq_getElem (by omega)];rfl
   rw [e1,e2]
   cases Z2j ((l.drop K).take i) (es.take i)
   ·simp
   ·simp only [if_true,if_pos (show i<l.length-K by omega),Bool.true_and]
theorem Za4 {l:List Ent} {K:Nat} {es:List Ent} {i:Nat} {m:List Ent} (hl:l.length≤60) (h:Z2g l K es i=some m):m.length≤60:=by
 induction i generalizing m with
 | zero=>injection h with h;rw [← h];exact hl
 | succ i ih=>
   rw [Z2g] at h
   cases hp:Z2g l K es i with
   | none=>rw [hp] at h;cases h
   | some x=>
     rw [hp] at h
     have:=ih hp
     simp only at h
     split at h
     ·split at h
      ·injection h with h;rw [← h];exact this
      ·cases h
     ·split at h
      ·next ho=>injection h with h;rw [← h];simp [Z3a] at ho;simp;omega
      ·cases h
theorem putE_len {l:List Ent} {k:Int} {es m:List Ent} (hl:l.length≤60) (h:Z6p l k es=some m):m.length≤60:=by
 unfold Z6p at h;split at h
 ·cases h
 ·exact Za4 hl h
theorem Z71 {w:World} {B B':Nat} {E:TypeId} {v:Value} {l:List Ent} (h:ownE w B E v l) (hB:B'≤B):ownE w B' E v l:=by
 obtain⟨h1,h2⟩:=h
 refine⟨h1,h2.imp id ?_⟩
 rintro⟨g,cap,cur,e1,e2,r⟩
 exact⟨g,cap,cur,e1,by omega,r⟩
theorem getD_lt {l:List Ent} {i:Nat} (h:i<l.length):l.getD i Zh1=l[i]:=by
 rw [List.getD_eq_getElem?_getD,List.getElem?_eq_getElem h];rfl
end
section
open Go.RowKit
theorem Z8z (w:World) (a:Option Addr) (c:Nat) (hc:c≤maxLen):rdE w (.slice a 0 c) []:=⟨a,c,rfl,Nat.zero_le _,hc,fun h=>by simp at h⟩
theorem Zhm {l:List Ent} {K:Nat} {es:List Ent} {n:Nat} (hn:n=min (l.length-K) es.length) (h:Z2j ((l.drop K).take n) (es.take n)=false):Z2g l K es es.length=none:=by
 have:Z2g l K es n=none:=by rw [Z70 (by omega) (by omega),h];rfl
 exact Z8a this (by omega)
theorem Zf9 (b:Nat) (v2:Value) (l es:List Ent) (k:Int) (w:World) (hr:rdLog w b l) (hr2:rdE w v2 es) (h:k<0∨(l.length:Int)<k) :
  Calls Tryz.prog 203 #[.pointer (some ⟨b,0,none⟩), .int .i64 k,v2] w fun r w'=>r=.returned (.bool false)∧Below w.heap.size w w':=by
 obtain⟨v,hv,hr⟩:=hr
 obtain⟨a,cap,rfl⟩:=hr.len
 clear hr
 by_cases h0:k<0
 ·clear h
  go_enter Tryz.func203,Tryz.ntmps203
  go_wp2
  go_ret
  exact⟨rfl,Below.refl _ _⟩
 ·have h1:(l.length:Int)<k:=by omega
  clear h
  go_enter Tryz.func203,Tryz.ntmps203
  go_wp2
  go_ret
  exact⟨rfl,Below.refl _ _⟩
theorem Zhn (b:Nat) (v2:Value) (l es:List Ent) (K n:Nat) (F:Nat→Prop) (w:World) (hr:lgO w F b l) (hr2:rdE w v2 es) (hK:K≤l.length) (hl:l.length≤60) (hn:n=min (l.length-K) es.length) :
  Calls Tryz.prog 203 #[.pointer (some ⟨b,0,none⟩), .int .i64 (K:Int),v2] w fun r w'=>r=.returned (.bool (Z2g l K es es.length).isSome)∧lgO w' (Gr F w w') b ((Z2g l K es es.length).getD l)∧Chg F w w':=by
 have m2:=hr.rd
 obtain⟨v,hv,q0⟩:=m2
 obtain⟨a,b1,rfl⟩:=q0.len
 have n0:=hd_ hr2
 obtain⟨a2,f0,rfl,hm2,f2,g2⟩:=hr2
 have j1:=q0
 obtain⟨_,_,he,hm,hM,_⟩:=j1
 injection he with he1 he2 he3
 subst he1 he3
 clear he2
 unfold maxLen at f2 hM
 have u1:n≤l.length-K:=by omega
 have y1:n≤es.length:=by omega
 have o2:=Z07 hv
 replace q0:=hd_ q0;replace hr:=hd_ hr;replace hn:=hd_ hn;clear g2
 go_enter Tryz.func203,Tryz.ntmps203
 go_upto_region 3 with (fail)
 go_cut [7] (fun s wx=>s=.int .i64 (n:Int)∧w=wx)
 case first=>
  by_cases hle:(l.length:Int)-(K:Int)≤(es.length:Int)
  ·go_wp2_with fail
   go_meet
   exact⟨by have:=hn.out;congr 1;omega,rfl⟩
  ·go_wp2_with fail
   go_meet
   exact⟨by have:=hn.out;congr 1;omega,rfl⟩
 case rest=>
  obtain⟨rfl,rfl⟩:=hcut
  obtain⟨q,hq⟩:∃ q,q=Z2j ((l.drop K).take n) (es.take n):=⟨_,rfl⟩
  have k1:rdE w (.slice a2 n f0) (es.take n):=Z8w n0.out n y1
  have HE:∀ X c,rdE w (.slice X n c) ((l.drop K).take n)→Hid (∀ z,Calls Tryz.prog 223 #[.slice X n c, .slice a2 n f0, .func (.func 224) #[] #[]] (Z1c w z) fun r w'=>r=.returned (.bool q)∧∃ y,w'=Z1c w y):=fun X c h z=>by
   rw [hq];exact Z5l (Z7v _ _ _ _ _ (h.grow (Z0s w z)) (k1.grow (Z0s w z)))
  replace HE:=hd_ HE;replace hq:=hd_ hq;replace k1:=hd_ k1;go_upto_region 4 with (fail)
  go_cut [49] (fun s wx=>s=.bool (!q)∧Below w.heap.size w wx)
  case first=>
   by_cases hn0:0<n
   ·obtain⟨_,_,he,_,_,ha⟩:=q0.out
    injection he with he1 he2 he3
    subst he1 he3
    obtain⟨bl,off,rfl,_⟩:=ha (by omega)
    have hd:=Z8w (Z8x q0.out K (by omega)) n (by simp;omega)
    have HE1:=HE.out _ _ hd
    have n1:¬ b1=K:=by omega
    clear ha hd
    refine Z08 (by kernel_rfl) (by kernel_rfl) ?_
    repeat (go_big_quiet_step ((go_at_call 223;exact HE1.out _)))
    refine wpQuiet_nil ?_
    intro w2 d0
    have p0:=Z0e d0
    clear d0;go_wp2_with fail
    go_meet
    exact⟨rfl,p0⟩
   ·obtain rfl:n=0:=by omega
    have HE1:Hid (∀ X c,c≤9223372036854775807→∀ z,Calls Tryz.prog 223 #[.slice X 0 c, .slice a2 0 f0, .func (.func 224) #[] #[]] (Z1c w z) fun r w'=>r=.returned (.bool q)∧∃ y,w'=Z1c w y):=hd_ fun X c hc=>(HE.out X c (by rw [List.take_zero];exact Z8z w X c (by unfold maxLen;omega))).out
    obtain⟨p1,v0,l0,w0,f1⟩:=hr.out
    have i2:v0=.slice a l.length b1:=by
     have:w.cell? ⟨b,0,none⟩=some v0:=by simp [World.cell?,l0]
     rw [hv] at this;injection this with this;exact this.symm
    subst i2
    rcases w0.2 with ⟨r1,hl0⟩ | ⟨g,cp,cur,n2,_⟩
    ·injection r1 with q1 q2 q3
     subst q1 q3
     obtain rfl:K=0:=by omega
     rw [q2] at o2
     clear l0 w0 f1 u1 hK hm hv
     refine Z08 (by kernel_rfl) (by kernel_rfl) ?_
     repeat (go_big_quiet_step ((go_at_call 223;exact HE1.out _ _ (by omega) _)))
     refine wpQuiet_nil ?_
     intro w2 d0
     have p0:=Z0e d0
     clear d0;go_wp2_with fail
     go_meet
     exact⟨rfl,p0⟩
    ·injection n2 with q1 q2 q3
     subst q1 q3
     clear l0 w0 f1 hv
     by_cases n1:b1=K
     ·refine Z08 (by kernel_rfl) (by kernel_rfl) ?_
      repeat (go_big_quiet_step ((go_at_call 223;exact HE1.out _ _ (by omega) _)))
      refine wpQuiet_nil ?_
      intro w2 d0
      have p0:=Z0e d0
      clear d0;go_wp2_with fail
      go_meet
      exact⟨rfl,p0⟩
     ·refine Z08 (by kernel_rfl) (by kernel_rfl) ?_
      repeat (go_big_quiet_step ((go_at_call 223;exact HE1.out _ _ (by omega) _)))
      refine wpQuiet_nil ?_
      intro w2 d0
      have p0:=Z0e d0
      clear d0;go_wp2_with fail
      go_meet
      exact⟨rfl,p0⟩
  case rest=>
   obtain⟨rfl,m0⟩:=hcut
   have l2:=hr.out.grow m0
   cases q
   ·have e0:=hd_ (Zhm hn.out hq.out.symm)
    go_wp2
    go_ret
    rw [e0.out]
    exact⟨rfl,hr.out.end_ m0⟩
   ·have u0:Hid (Z2g l K es n=some l):=hd_ (by rw [Z70 u1 y1,← hq.out];rfl)
    have k2:wc.cell? ⟨b,0,none⟩=some (.slice a l.length b1):=by rw [← hv];exact m0.cell (Z0f hv)
    have x0:=q0.out.grow m0
    go_wp2_with fail
    refine (Z2m _ l _ x0 (by omega)).mono ?_
    rintro r w3 ⟨v3,rfl,s0,b2⟩
    obtain⟨a3,k0,rfl⟩:=s0.rd.len
    have d1:=m0.trans (b2.mono m0.size)
    have t0:lgO (w3.alloc (.cells #[.slice a3 l.length k0] 191)) (News w (w3.alloc (.cells #[.slice a3 l.length k0] 191))) w3.heap.size l:=
     ⟨⟨d1.size,by simp⟩, .slice a3 l.length k0,heap_alloc_new w3 _,Z71 (Z0z s0 ((Below.refl _ _).alloc (Nat.le_refl _) _)) (Nat.zero_le _),fun k hk=>⟨by have:=(s0.lt k hk).1;have:=m0.size;omega,by have:=(s0.lt k hk).2;simp;omega⟩⟩
    have e1:Below w.heap.size w (w3.alloc (.cells #[.slice a3 l.length k0] 191)):=d1.alloc d1.size _
    replace t0:=hd_ t0;replace e1:=hd_ e1;clear b2 d1 k2 l2 m0 x0 s0;go_upto_region 7 with (fail)
    generalize hW4:World.alloc w3 _=w4
    rw [hW4] at t0 e1
    clear hW4
    generalize w3.heap.size=bx at t0 ⊢
    go_cut [59,60,61] (fun s t u wx=>(∃ X c,s=.slice X (es.length-n) c∧rdE w s (es.drop n))∧t=.int .i64 ((es.length-n:Nat):Int)∧u=.int .i64 0∧w4=wx)
    case first=>
     by_cases hlt:n<es.length
     ·obtain⟨_,_,he,_,_,ha⟩:=n0.out
      injection he with he1 he2 he3
      subst he1 he3
      obtain⟨bl,off,rfl,_⟩:=ha (by omega)
      have hd:=hd_ (Z8x n0.out n hlt)
      have n1:¬ f0=n:=by omega
      clear ha;go_wp2_with fail
      go_meet
      exact⟨⟨_,_,rfl,hd.out⟩,by congr 1<;>omega,rfl,rfl⟩
     ·have hz:es.drop n=[]:=List.drop_eq_nil_of_le (by omega)
      have j2:n=es.length:=by omega
      have e2:es.length-n=0:=by omega
      have HX:∀ X c,c≤9223372036854775807→rdE w (.slice X (es.length-n) c) (es.drop n):=fun X c hc=>by
       rw [hz,e2];exact Z8z w X c (by unfold maxLen;omega)
      replace HX:=hd_ HX;clear hz e2 j2
      by_cases n1:f0=n
      ·cases a2
       all_goals
        go_wp2_with fail
        go_meet
        exact⟨⟨_,_,rfl,HX.out _ _ (by omega)⟩,by congr 1<;>omega,rfl,rfl⟩
      ·cases a2
       all_goals
        go_wp2_with fail
        go_meet
        exact⟨⟨_,_,rfl,HX.out _ _ (by omega)⟩,by congr 1<;>omega,rfl,rfl⟩
    case rest=>
     obtain⟨⟨X,c,rfl,hd⟩,rfl,rfl,rfl⟩:=hcut
     obtain⟨X',c',he,z1,w1,y0⟩:=hd
     have z0:(es.drop n).length=es.length-n:=by simp
     have hml:es.length-n≤c:=by
      injection he with q1 q2 q3
      rw [q3,← z0];exact z1
     have hMl:c≤9223372036854775807:=by
      injection he with q1 q2 q3
      rw [q3];exact w1
     have y0:0<es.length-n→∃ bl off,X=some ⟨bl,off,none⟩∧∀ j (h:j<es.length-n),cellsE w bl (off+j*7) (es.getD (n+j) Zh1):=fun h0=>by
      injection he with q1 q2 q3
      subst q1
      obtain⟨bl,off,h1,h2⟩:=y0 (by omega)
      refine⟨bl,off,h1,fun j hj=>?_⟩
      have:=h2 j (by omega)
      rw [List.getElem_drop] at this
      rw [getD_lt (by omega)]
      exact this
     replace y0:=hd_ y0;clear he z1 w1 z0;go_wp2
     go_loopw [61] (fun i wr=>∃ (j:Nat) (m:List Ent),j≤es.length-n∧i=.int .i64 j∧Z2g l K es (n+j)=some m∧lgO wr (News w wr) bx m∧Below w.heap.size w wr) (fun i _=>(es.length-n)-(intOf i).toNat)
     case atStart=>exact⟨0,l,Nat.zero_le _,rfl,u0.out,t0.out,e1.out⟩
     case round=>
      obtain⟨j,m,hj,rfl,b0,a1,a0⟩:=hrel
      have i1:=Za4 hl b0
      replace b0:=hd_ b0;replace a1:=hd_ a1
      have s1:=a0.size
      by_cases hlt:j<es.length-n
      ·obtain⟨bl,off,rfl,hc⟩:=y0.out (by omega)
       have d2:=Z1o (hc j hlt) a0
       have g1:Hid (∀ q,Z3a m (es.getD (n+j) Zh1)=q→Z2g l K es (n+(j+1))=if q=true then some (m++[es.getD (n+j) Zh1]) else none):=hd_ (fun q hq=>by
        rw [← Nat.add_assoc,Z2g,b0.out]
        simp only [if_neg (show ¬ n+j<l.length-K by have:=hn.out;omega),hq])
       clear hc
       generalize es.getD (n+j) Zh1=x at d2 g1
       obtain⟨c0,c1,c2,c3,c4,c5,c6⟩:=d2
       have i0:∀ o,lgO (wr.alloc o) (News w (wr.alloc o)) bx m:=fun o=>
        (a1.out.grow ((Below.refl _ _).alloc (Nat.le_refl _) o)).mono fun k hk=>⟨hk.1,by simp;omega⟩
       replace i0:=hd_ i0;go_wp2_with fail
       refine (Z5o _ _ x _ _ (i0.out _) i1).mono ?_
       rintro r w5 ⟨rfl,h1,h2⟩
       have x1:Below w.heap.size w w5:=(a0.alloc s1 _).trans (h2.below (by simp;omega) fun k hk=>hk.1)
       have h3:lgO w5 (News w w5) bx (Z88 m x):=by
        refine h1.mono fun k hk=>?_
        have:=h2.size
        rcases hk with hk | hk
        ·exact⟨hk.1,Nat.lt_of_lt_of_le hk.2 this⟩
        ·have:=hk.1;simp at this;exact⟨by omega,hk.2⟩
       clear h1 h2 a0 c0 c1 c2 c3 c4 c5 c6 a1 i0
       cases r0:Z3a m x
       ·have e0:=hd_ (Z8a (g1.out false r0) (show n+(j+1)≤es.length by omega))
        go_wp2
        go_ret
        rw [e0.out]
        exact⟨rfl,hr.out.end_ x1⟩
       ·rw [Z88,if_pos r0] at h3
        have m1:=hd_ (g1.out true r0)
        clear g1 r0;go_wp2
        go_roundw
        case rel=>exact⟨j+1,m++[x],by omega,by go_num,m1.out,h3,x1⟩
        case measure=>simp [intOf];omega
      ·have t1:n+j=es.length:=by omega
       have r0:Hid (Z2g l K es es.length=some m):=hd_ (by rw [← t1];exact b0.out)
       clear t1
       obtain⟨r2,vx,v1,l1,o1⟩:=a1.out
       obtain⟨ax,j0,rfl⟩:=l1.rd.len
       have hcx:wr.cell? ⟨bx,0,none⟩=some (.slice ax m.length j0):=by simp [World.cell?,v1]
       obtain⟨p1,v0,l0,w0,f1⟩:=hr.out
       have g0:wr.heap[b]?=some (.cells #[v0] 191 (0,0)):=by rw [a0.block b (Z2i l0)];exact l0
       have hcb:wr.cell? ⟨b,0,none⟩=some v0:=by simp [World.cell?,g0]
       have hfb:wr.frozen? ⟨b,0,none⟩=false:=by simp [World.frozen?,g0]
       have o0:lgO (wr.setCell ⟨b,0,none⟩ (.slice ax m.length j0)) (Gr F w (wr.setCell ⟨b,0,none⟩ (.slice ax m.length j0))) b m∧Chg F w (wr.setCell ⟨b,0,none⟩ (.slice ax m.length j0)):=by
        have p2:=Z2i l0
        refine⟨⟨.inl p1,_,one_setCell g0,ownsRow_setCell_other l1 (by intro hk;have:=(o1 _ hk).1;exact absurd p2 (by simp at this ⊢;omega)) _,fun k hk=>.inr ?_⟩,?_⟩
        ·have:=o1 k hk;exact⟨this.1,by rw [World.size_setCell];exact this.2⟩
        ·refine⟨a0.os,a0.tape,a0.output,by rw [World.size_setCell];exact s1,fun k hk hF=>?_⟩
         rw [Below.heap_setCell _ _ _ _ (fun e=>hF (by rw [show k=b from e];exact p1))]
         exact a0.block k hk
       replace o0:=hd_ o0;clear v1 l1 o1 l0 w0 f1 g0 r2;go_wp2
       go_ret
       rw [r0.out]
       exact⟨rfl,o0.out⟩
end
section
open Go.RowKit
theorem Zfa (b:Nat) (v2:Value) (l es:List Ent) (k:Int) (F:Nat→Prop) (w:World) (hr:lgO w F b l) (hr2:rdE w v2 es) (hl:l.length≤60) :
  Calls Tryz.prog 203 #[.pointer (some ⟨b,0,none⟩), .int .i64 k,v2] w fun r w'=>r=.returned (.bool (Z6p l k es).isSome)∧lgO w' (Gr F w w') b ((Z6p l k es).getD l)∧Chg F w w':=by
 by_cases h:k<0∨(l.length:Int)<k
 ·refine (Zf9 b v2 l es k w hr.rd hr2 h).mono ?_
  rintro r w' ⟨rfl,hb⟩
  rw [Z6p,if_pos h]
  exact⟨rfl,hr.end_ hb⟩
 ·obtain⟨K,rfl⟩:∃ K:Nat,k=K:=⟨k.toNat,by omega⟩
  have hK:K≤l.length:=by omega
  rw [Z6p,if_neg h,Int.toNat_natCast]
  exact Zhn b v2 l es K _ F w hr hr2 hK hl rfl
end
end Go.Proofs.YtbonjbokofkafaaGreat
