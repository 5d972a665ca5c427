/- Lemmas of the proof: PkG. -/
import Derived.Test.YtbonjbokofkafaaGreatPkC
import Derived.Test.YtbonjbokofkafaaGreatPkB
import Derived.Deep.RegionLaw
import Derived.Deep.AppendLies
namespace Go.Proofs.YtbonjbokofkafaaGreat
set_option linter.unusedVariables false
set_option maxRecDepth 100000
set_option maxHeartbeats 64000000
section
open Go.RowKit
structure Mg where
 kind:Int
 frm:Int
 too:Int
 boot:Int
 view:Int
 last:Int
 mem:Int
 pos:Int
 com:Int
 num:Int
 clock:Int
 yes:Bool
abbrev mg0:Mg:=⟨0,0,0,0,0,0,0,0,0,0,0,false⟩
abbrev Mg.cells (m:Mg):List Value:=[.int .i64 m.kind, .int .i64 m.frm, .int .i64 m.too, .int .i64 m.boot, .int .i64 m.view, .int .i64 m.last, .int .i64 m.mem, .int .i64 m.pos, .slice none 0 0, .int .i64 m.com, .int .i64 m.num, .int .i64 m.clock, .bool m.yes]
abbrev Mg.val (m:Mg):Value:=.agg #[.int .i64 m.kind, .int .i64 m.frm, .int .i64 m.too, .int .i64 m.boot, .int .i64 m.view, .int .i64 m.last, .int .i64 m.mem, .int .i64 m.pos, .slice none 0 0, .int .i64 m.com, .int .i64 m.num, .int .i64 m.clock, .bool m.yes]
abbrev Mg.box (m:Mg) (T:TypeId):Obj:=.cells #[.int .i64 m.kind, .int .i64 m.frm, .int .i64 m.too, .int .i64 m.boot, .int .i64 m.view, .int .i64 m.last, .int .i64 m.mem, .int .i64 m.pos, .slice none 0 0, .int .i64 m.com, .int .i64 m.num, .int .i64 m.clock, .bool m.yes] T
abbrev jnC (me n boot promise:Int) (m:Mg) (got:Bool):Array Value:=#[.int .i64 me, .int .i64 n, .int .i64 boot, .int .i64 promise, .int .i64 m.kind, .int .i64 m.frm, .int .i64 m.too, .int .i64 m.boot, .int .i64 m.view, .int .i64 m.last, .int .i64 m.mem, .int .i64 m.pos, .slice none 0 0, .int .i64 m.com, .int .i64 m.num, .int .i64 m.clock, .bool m.yes, .bool got]
def jnO (w:World) (b:Nat) (me n boot promise:Int) (m:Mg) (got:Bool):Prop:=w.heap[b]?=some (.cells (jnC me n boot promise m got) 170 (0,0))
theorem jnO.below {w w':World} {b:Nat} {me n boot promise:Int} {m:Mg} {got:Bool} (h:jnO w b me n boot promise m got) (hb:Below w.heap.size w w'):jnO w' b me n boot promise m got:=Z02 h hb
theorem jNew_ok (me n boot promise:Int) (w:World) (h3:3≤n) (h7:n≤7) (hm:1≤me) (hmn:me≤n) (hb:1≤boot) (hb2:boot≤1099511627776) (hp:0≤promise) (hp2:promise≤1099511627776) :
  Calls Tryz.prog 96 #[.int .i64 me, .int .i64 n, .int .i64 boot, .int .i64 promise] w fun r w'=>r=.returned (.pointer (some ⟨w.heap.size,0,none⟩))∧jnO w' w.heap.size me n boot promise mg0 false∧Below w.heap.size w w':=by
 have d:(Z1y 1 n==0)=false:=by
  have h1:¬ (n<3∨7<n):=by omega
  simp [Z1y,h1]
 go_enter Tryz.func96,Tryz.ntmps96
 go_wp2_with (go_at_call 89;refine (Z0p _ _ _ (by omega) (by omega)).mono ?_;rintro e w' ⟨rfl,rfl⟩)
 go_ret
 exact⟨rfl,Z0a _ _,(Below.refl _ _).alloc (Nat.le_refl _) _⟩
end
section
open Go.RowKit
theorem rdE_nil1 (w:World):rdE w (.slice none 0 0) []:=⟨none,0,rfl,Nat.zero_le _,Nat.zero_le _,fun h=>by simp at h⟩
end
section
open Go.RowKit
def askM (me boot:Int) (i:Nat):Mg:=⟨10,me,(i:Int)+1,boot,0,0,0,0,0,boot,0,false⟩
def Z9q (me:Int) (k:Nat):Nat:=if (k:Int)<me then k else k-1
def Zcc (me boot:Int) (c:Nat):List Mg:=(List.range c).map fun i:Nat=>askM me boot (if (i:Int)+1<me then i else i+1)
theorem asks_len (me boot:Int) (c:Nat):(Zcc me boot c).length=c:=by simp [Zcc]
theorem Zi8 {me:Int} (boot:Int) {k:Nat} (h:((k+1:Nat):Int)=me):Zcc me boot (Z9q me (k+1))=Zcc me boot (Z9q me k):=by
 unfold Z9q;rw [if_neg (by omega),if_pos (by omega)];rfl
theorem Zi9 {me:Int} (boot:Int) {k:Nat} (h1:1≤me) (h:((k+1:Nat):Int)≠me):Zcc me boot (Z9q me (k+1))=Zcc me boot (Z9q me k)++[askM me boot k]:=by
 unfold Z9q
 by_cases hk:((k+1:Nat):Int)<me
 ·rw [if_pos hk,if_pos (by omega)]
  simp only [Zcc,List.range_succ,List.map_append,List.map_cons,List.map_nil]
  rw [if_pos (by omega)]
 ·rw [if_neg hk,if_neg (by omega),Nat.add_sub_cancel]
  obtain⟨j,rfl⟩:∃ j,k=j+1:=⟨k-1,by omega⟩
  rw [Nat.add_sub_cancel]
  simp only [Zcc,List.range_succ,List.map_append,List.map_cons,List.map_nil]
  rw [if_neg (by omega)]
def Z97 (l:List Mg):List Value:=l.flatMap Mg.cells
theorem Zia (l:List Mg) (j:Nat) (h:j<l.length) (c:Nat) (hc:c<13):(Z97 l)[j*13+c]?=(l[j].cells)[c]?:=by
 induction l generalizing j with
 | nil=>simp at h
 | cons x l ih=>
   unfold Z97 at ih ⊢
   rw [List.flatMap_cons]
   cases j with
   | zero=>rw [Nat.zero_mul,Nat.zero_add,List.getElem?_append_left (by simpa using hc)];rfl
   | succ j=>
     rw [List.getElem?_append_right (by simp;omega),show (j+1)*13+c-x.cells.length=j*13+c by simp;omega,ih j (by simpa using h)]
     rfl
theorem Zfn (l:List Mg) (x:Mg):Z97 (l++[x])=Z97 l++x.cells:=by
 unfold Z97;rw [List.flatMap_append];simp
def cM (w:World) (b o:Nat) (m:Mg):Prop:=w.cell? ⟨b,o,none⟩=some (.int .i64 m.kind)∧w.cell? ⟨b,o+1,none⟩=some (.int .i64 m.frm)∧w.cell? ⟨b,o+2,none⟩=some (.int .i64 m.too)∧w.cell? ⟨b,o+3,none⟩=some (.int .i64 m.boot)∧w.cell? ⟨b,o+4,none⟩=some (.int .i64 m.view)∧w.cell? ⟨b,o+5,none⟩=some (.int .i64 m.last)∧w.cell? ⟨b,o+6,none⟩=some (.int .i64 m.mem)∧w.cell? ⟨b,o+7,none⟩=some (.int .i64 m.pos)∧w.cell? ⟨b,o+8,none⟩=some (.slice none 0 0)∧w.cell? ⟨b,o+9,none⟩=some (.int .i64 m.com)∧w.cell? ⟨b,o+10,none⟩=some (.int .i64 m.num)∧w.cell? ⟨b,o+11,none⟩=some (.int .i64 m.clock)∧w.cell? ⟨b,o+12,none⟩=some (.bool m.yes)
theorem cM.lt {w:World} {b o:Nat} {m:Mg} (h:cM w b o m):b<w.heap.size:=Z0f h.1
theorem cM.grow (w w':World) (b o:Nat) (m:Mg) (h:cM w b o m) (hb:Below w.heap.size w w'):cM w' b o m:=by
 have a0:=h.lt
 have k:∀ o,w'.cell? ⟨b,o,none⟩=w.cell? ⟨b,o,none⟩:=fun o=>hb.cell a0
 unfold cM at h ⊢
 simp only [k]
 exact h
def ownM (w:World) (base:Nat) (v:Value) (l:List Mg):Prop:=w.ownsRow base 37 13 v l.length (Z97 l)
theorem ownM.rd {w:World} {base:Nat} {v:Value} {l:List Mg} (h:ownM w base v l):rdS 13 cM w v l:=by
 obtain⟨hl,⟨rfl,h0⟩ | ⟨g,c0,b0,rfl,hb,hg,hn,hc,hs,ht⟩⟩:=h
 ·exact⟨none,0,by rw [h0],by rw [h0];exact Nat.zero_le _,Nat.zero_le _,fun h=>by omega⟩
 ·refine⟨some ⟨g,0,none⟩,c0,rfl,hn,hc,fun _=>⟨g,0,rfl,fun j hj=>?_⟩⟩
  have a0:∀ c u,c<13→(l[j].cells)[c]?=some u→w.cell? ⟨g,0+j*13+c,none⟩=some u:=by
   intro c u hc hu
   have h1:(b0.toList.take (l.length*13))[j*13+c]?=some u:=by rw [ht,Zia l j hj c hc];exact hu
   rw [List.getElem?_take] at h1
   split at h1
   ·simp [World.cell?,hg] at h1 ⊢
    simpa using h1
   ·cases h1
  exact⟨a0 0 _ (by omega) rfl,a0 1 _ (by omega) rfl,a0 2 _ (by omega) rfl,a0 3 _ (by omega) rfl,a0 4 _ (by omega) rfl,a0 5 _ (by omega) rfl,a0 6 _ (by omega) rfl,a0 7 _ (by omega) rfl,a0 8 _ (by omega) rfl,a0 9 _ (by omega) rfl,a0 10 _ (by omega) rfl,a0 11 _ (by omega) rfl,a0 12 _ (by omega) rfl⟩
theorem Zib:(Tryz.prog.info? 37).map (fun i=>(i.zero,i.size,i.bytes))=some (some mg0.val,13,120):=by kernel_rfl
theorem Zic (m:Mg):∀ u ∈ m.cells,u.oneCell'=true:=by
 intro u hu
 simp at hu
 rcases hu with rfl | rfl | rfl | rfl | rfl | rfl | rfl | rfl | rfl | rfl | rfl | rfl | rfl<;>rfl
theorem jAsk_any (b:Nat) (me n boot promise:Int) (m0:Mg) (got:Bool) (w:World) (hj:jnO w b me n boot promise m0 got) (h1:1≤me) (hn:0≤n) (hn7:n≤7) :
  Calls Tryz.prog 70 #[.pointer (some ⟨b,0,none⟩)] w fun r w'=>∃ v',r=.returned v'∧ownM w' w.heap.size v' (Zcc me boot (Z9q me n.toNat))∧Below w.heap.size w w':=by
 obtain⟨i0,hi,u0,t0,r0⟩:=info_parts Zib
 replace hi:=hd_ hi
 obtain⟨N,rfl⟩:∃ N:Nat,n=N:=⟨n.toNat,by omega⟩
 rw [Int.toNat_natCast]
 have hjl:=Z04 hj
 replace hj:=hd_ hj
 go_enter Tryz.func70,Tryz.ntmps70
 go_wp2
 go_loopw [3,4] (fun r i wr=>∃ k:Nat,k≤N∧i=.int .i64 ((k:Int)+1)∧ownM wr w.heap.size r (Zcc me boot (Z9q me k))∧Below w.heap.size w wr) (fun _ i _=>N+1-(intOf i).toNat)
 case atStart=>exact⟨0,Nat.zero_le _,rfl,by rw [show Z9q me 0=0 by unfold Z9q;split<;>rfl];exact World.ownsRow_nil _ _ _ _,Below.refl _ _⟩
 case round=>
  obtain⟨k,hk,rfl,a0,b0⟩:=hrel
  have o0:=b0.size
  have h0:=hj.out.below b0
  unfold jnO at h0
  have e0:=Z00 h0 0
  have e1:=Z00 h0 1
  have e2:=Z00 h0 2
  simp only [List.getElem?_toArray,List.getElem?_cons_zero,List.getElem?_cons_succ] at e0 e1 e2
  have w0:=Z04 h0
  replace h0:=hd_ h0
  have g0:=asks_len me boot (Z9q me k)
  have n0:Z9q me k≤k:=by unfold Z9q;split<;>omega
  obtain⟨L,hL⟩:∃ L,Zcc me boot (Z9q me k)=L:=⟨_,rfl⟩
  rw [hL] at a0 g0
  replace hL:=hd_ hL;replace n0:=hd_ n0
  have hl8:L.length≤8:=by have:=n0.out;omega
  replace g0:=hd_ g0
  by_cases hlt:k<N
  ·by_cases hme:((k+1:Nat):Int)=me
   ·have hs:=Zi8 boot hme
    replace hs:=hd_ hs
    have l0:(k:Int)+1=me:=by omega
    replace a0:=hd_ a0;replace b0:=hd_ b0;clear hme;subst l0;go_wp2
    go_roundw
    case rel=>exact⟨k+1,by omega,by go_num,by rw [hs.out,hL.out];exact a0.out,b0.out⟩
    case measure=>simp [intOf];omega
   ·have hs:=Zi9 boot h1 hme
    rw [hL.out] at hs
    replace hs:=hd_ hs
    have d:((k:Int)+1==me)=false:=by simp;omega
    have d2:((k:Int)+1 != me)=true:=by simp;omega
    have s0:=a0.rd.len
    obtain⟨ao,q0,rfl⟩:=s0
    replace a0:=hd_ a0;replace b0:=hd_ b0;replace hme:=hd_ hme;go_upto_region 8 with (fail)
    have v0:=hi.out
    go_region_law
     ((refine step_append_lies _ (by rfl) _ _ _ (by rfl) w.heap.size 37 i0 _ 13 120 Tryz.underlying40 v0 u0 t0 r0 rfl (by omega) (.slice ao L.length q0) L.length (Z97 L) (by rfl) ((World.ownsRow.alloc a0.out _).drew) ⟨wr.heap.size,0,none⟩ 1 1 (askM me boot k).cells (by rfl) (by rfl) (World.news_of_block (cs:=(askM me boot k).cells.toArray) (t:=37) (fr:=(0,0)) (heap_alloc_new wr _)) (Zic _) (by omega) (by unfold maxLen;omega) (by omega) (by simp;omega) (wr.heap.size+1) (by simp) ?_;intro gg k0 w5 f0 d0 x0 p0))
    all_goals
     have c0:ownM w5 w.heap.size (.slice (some ⟨gg,0,none⟩) (L.length+1) k0) (Zcc me boot (Z9q me (k+1))):=by
      rw [hs.out,ownM,List.length_append,Zfn];exact f0
     have j0:Below w.heap.size w w5:=((b0.out.alloc o0 _).drew).grown d0 (by simp;omega) (fun k hk=>(a0.out.lt k hk).1)
     clear f0 d0 x0;replace c0:=hd_ c0;replace j0:=hd_ j0;go_wp2
     go_roundw
     case rel=>exact⟨k+1,by omega,by go_num,c0.out,j0.out⟩
     case measure=>simp [intOf];omega
  ·obtain rfl:k=N:=by omega
   rw [← hL.out] at a0
   replace a0:=hd_ a0;replace b0:=hd_ b0;go_wp2
   go_ret
   exact⟨_,rfl,a0.out,b0.out⟩
end
end Go.Proofs.YtbonjbokofkafaaGreat
