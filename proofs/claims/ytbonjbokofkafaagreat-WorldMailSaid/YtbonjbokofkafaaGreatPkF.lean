/- Lemmas of the proof: PkF. -/
import Derived.Test.YtbonjbokofkafaaGreatPkD
import Derived.Test.YtbonjbokofkafaaGreatPkA
import Derived.Sort.OwnSortedInts
import Derived.Deep.AppendLies
import Derived.StillTailTactics
namespace Go.Proofs.YtbonjbokofkafaaGreat
set_option linter.unusedVariables false
set_option maxRecDepth 100000
set_option maxHeartbeats 64000000
section
open Go.RowKit Go.Sort Go.Proofs
def Z27 (l:List Int):List Int:=l.mergeSort fun x y=>decide (x≤y)
theorem Zfk (l:List Int):(Z27 l).Perm l:=List.mergeSort_perm _ _
theorem Z2s (l:List Int):(Z27 l).length=l.length:=(Zfk l).length_eq
theorem Zae (l:List Int):(Z27 l).Pairwise (·≤·):=by
 have:=List.pairwise_mergeSort (le:=fun x y:Int=>decide (x≤y)) (fun a b c h1 h2=>by simp at *;omega) (fun a b=>by simp;omega) l
 exact List.Pairwise.imp (fun h=>by simpa using h) this
theorem Z3b (g cap base:Nat) (l:List Int) (w:World) (ho:ownI w base 2 (.slice (some ⟨g,0,none⟩) l.length cap) l) (hl:l.length<4611686018427387904) :
  Calls Tryz.prog 236 #[.slice (some ⟨g,0,none⟩) l.length cap] w fun r w'=>r=.returned (.tuple #[])∧ownI w' base 2 (.slice (some ⟨g,0,none⟩) (Z27 l).length cap) (Z27 l)∧Chg (fun k=>k=g) w w':=by
 obtain⟨h1,⟨h2,_⟩ | ⟨g',a0,cur,e,hb,hg,hn,hc,hs,ht⟩⟩:=ho
 ·cases h2
 injection e with e1 e2 e3
 injection e1 with e1;injection e1 with e1
 subst e1 e3
 rw [Nat.mul_one] at ht
 refine (AnyG.slices_Sort_int Tryz.laysSort g 0 cap l w (holds_of_blockI hg ht) (Z04 hg) hl).mono ?_
 rintro r w' ⟨rfl,n,os,rfl⟩
 refine⟨rfl,?_,?_⟩
 ·have:=ownsRow_sortedI (n:=n) (os:=os) (ts:=Z27 l) (Z2s l) hb hg hn hc hs
  rw [ownI,Z2s]
  exact this
 ·have:=grownBy_sortedI (w:=w) (g:=g) (n:=n) (os:=os) (Z27 l).toArray
  exact⟨this.os,this.tape,this.output,this.size,fun k hk hF=>this.block k hk (fun e=>hF (by injection e))⟩
theorem Zc9:(Tryz.prog.info? 2).map (fun i=>(i.zero,i.size,i.bytes))=some (some (.int .i64 0),1,8):=by kernel_rfl
theorem Z2t (b off c:Nat) (l:List Int) (w:World) (hl:l.length≤1000000) (hc:∀ j (h:j<l.length),w.cell? ⟨b,off+j,none⟩=some (.int .i64 l[j])) :
  Calls Tryz.prog 235 #[.slice (some ⟨b,off,none⟩) l.length c] w fun r w'=>∃ v',r=.returned v'∧ownI w' w.heap.size 2 v' l∧Below w.heap.size w w':=by
 obtain⟨i0,hi,c0,b0,a0⟩:=info_parts Zc9
 refine (AnyE.slices_Clone Tryz.laysClone i0 (.int .i64 0) 1 8 hi c0 b0 a0 rfl (by omega) Tryz.sizeOf2 b off l.length c (Z9s l) w (by simp [Z9s]) (by unfold maxLen;omega) (by omega) ?_ ?_).mono ?_
 ·intro j u hu
  have hj:j<l.length:=by
   have:=(List.getElem?_eq_some_iff.1 hu).1
   simpa [Z9s] using this
  rw [hc j hj]
  simpa [Z9s,hj] using hu
 ·intro u hu
  obtain⟨x,_,rfl⟩:=List.mem_map.1 hu
  rfl
 ·rintro r w' ⟨v',rfl,h1,_,h3⟩
  exact⟨v',rfl,h1,h3⟩
end
section
open Go.RowKit
theorem Z4r (H:List Int) (h:H.length=8):∃ a b c d e f g i,H=[a,b,c,d,e,f,g,i]:=by
 match H,h with
 | [a,b,c,d,e,f,g,i],_=>exact⟨a,b,c,d,e,f,g,i,rfl⟩
def qC (n mem me:Int) (H P:List Int) (last:Int):Array Value:=
 (.int .i64 n :: .int .i64 mem :: .int .i64 me :: (H.map (Value.int .i64)++P.map (Value.int .i64)++[.int .i64 last])).toArray
theorem Z77 {n mem me:Int} {H P:List Int} {last:Int} (hH:H.length=8) (hP:P.length=8):(qC n mem me H P last)[19]?=some (.int .i64 last):=by
 obtain⟨a,b,c,d,e,f,g,i,rfl⟩:=Z4r H hH
 obtain⟨a,b,c,d,e,f,g,i,rfl⟩:=Z4r P hP
 rfl
theorem qC_H {n mem me:Int} {H P:List Int} {last:Int} (hH:H.length=8) (hP:P.length=8) {i:Nat} (hi:i<8):(qC n mem me H P last)[3+i]?=some (.int .i64 (H.getD i 0)):=by
 obtain⟨a,b,c,d,e,f,g,i,rfl⟩:=Z4r H hH
 obtain⟨a,b,c,d,e,f,g,i,rfl⟩:=Z4r P hP
 rename_i j _ _ _ _ _ _ _ _
 rcases (by omega:j=0∨j=1∨j=2∨j=3∨j=4∨j=5∨j=6∨j=7) with rfl | rfl | rfl | rfl | rfl | rfl | rfl | rfl<;>rfl
theorem qC_P {n mem me:Int} {H P:List Int} {last:Int} (hH:H.length=8) (hP:P.length=8) {i:Nat} (hi:i<8):(qC n mem me H P last)[11+i]?=some (.int .i64 (P.getD i 0)):=by
 obtain⟨a,b,c,d,e,f,g,i,rfl⟩:=Z4r H hH
 obtain⟨a,b,c,d,e,f,g,i,rfl⟩:=Z4r P hP
 rename_i j _ _ _ _ _ _ _ _
 rcases (by omega:j=0∨j=1∨j=2∨j=3∨j=4∨j=5∨j=6∨j=7) with rfl | rfl | rfl | rfl | rfl | rfl | rfl | rfl<;>rfl
theorem qC_setH {n mem me:Int} {H P:List Int} {last:Int} (hH:H.length=8) (hP:P.length=8) {i:Nat} (hi:i<8) (x:Int):(qC n mem me H P last).setIfInBounds (3+i) (.int .i64 x)=qC n mem me (H.set i x) P last:=by
 obtain⟨a,b,c,d,e,f,g,i,rfl⟩:=Z4r H hH
 obtain⟨a,b,c,d,e,f,g,i,rfl⟩:=Z4r P hP
 rename_i j _ _ _ _ _ _ _ _
 rcases (by omega:j=0∨j=1∨j=2∨j=3∨j=4∨j=5∨j=6∨j=7) with rfl | rfl | rfl | rfl | rfl | rfl | rfl | rfl<;>rfl
theorem Zi0 {n mem me:Int} {H P:List Int} {last:Int} (hH:H.length=8) (hP:P.length=8) {i:Nat} (hi:i<8) (x:Int):(qC n mem me H P last).setIfInBounds (11+i) (.int .i64 x)=qC n mem me H (P.set i x) last:=by
 obtain⟨a,b,c,d,e,f,g,i,rfl⟩:=Z4r H hH
 obtain⟨a,b,c,d,e,f,g,i,rfl⟩:=Z4r P hP
 rename_i j _ _ _ _ _ _ _ _
 rcases (by omega:j=0∨j=1∨j=2∨j=3∨j=4∨j=5∨j=6∨j=7) with rfl | rfl | rfl | rfl | rfl | rfl | rfl | rfl<;>rfl
theorem qC_setL {n mem me:Int} {H P:List Int} {last:Int} (hH:H.length=8) (hP:P.length=8) (x:Int):(qC n mem me H P last).setIfInBounds 19 (.int .i64 x)=qC n mem me H P x:=by
 obtain⟨a,b,c,d,e,f,g,i,rfl⟩:=Z4r H hH
 obtain⟨a,b,c,d,e,f,g,i,rfl⟩:=Z4r P hP
 rfl
def qO (w:World) (b:Nat) (n mem me:Int) (H P:List Int) (last:Int):Prop:=
 w.heap[b]?=some (.cells (qC n mem me H P last) 234 (0,0))∧H.length=8∧P.length=8
theorem qO.below {w w':World} {b:Nat} {n mem me:Int} {H P:List Int} {last:Int} (h:qO w b n mem me H P last) (hb:Below w.heap.size w w'):qO w' b n mem me H P last:=⟨Z02 h.1 hb,h.2⟩
def medS (H:List Int) (n:Nat):Int:=(Z27 ((H.drop 1).take n)).getD ((n-1) / 2) 0
end
section
open Go.RowKit
theorem Zaf (b:Nat) (n mem me:Int) (H P:List Int) (last:Int) (h0 h1 h2 h3 h4 h5 h6 h7:Int) (w:World) (hq:qO w b n mem me H P last) (hn:3≤n) (hn7:n≤7) :
  Calls Tryz.prog 232 #[.pointer (some ⟨b,0,none⟩), .agg #[.int .i64 h0, .int .i64 h1, .int .i64 h2, .int .i64 h3, .int .i64 h4, .int .i64 h5, .int .i64 h6, .int .i64 h7]] w
   fun r w'=>r=.returned (.int .i64 (medS [h0,h1,h2,h3,h4,h5,h6,h7] n.toNat))∧Below w.heap.size w w':=by
 obtain⟨W1,w0⟩:∃ W,W=w.alloc (.cells #[.int .i64 h0, .int .i64 h1, .int .i64 h2, .int .i64 h3, .int .i64 h4, .int .i64 h5, .int .i64 h6, .int .i64 h7] 78):=⟨_,rfl⟩
 have k0:Below w.heap.size w W1:=w0 ▸ (Below.refl _ _).alloc (Nat.le_refl _) _
 have r0:W1.heap[w.heap.size]?=some (.cells #[.int .i64 h0, .int .i64 h1, .int .i64 h2, .int .i64 h3, .int .i64 h4, .int .i64 h5, .int .i64 h6, .int .i64 h7] 78 (0,0)):=w0 ▸ Z0a _ _
 have s0:=hq.below k0
 have e0:=Z00 s0.1 0
 rw [show (qC n mem me H P last)[0]?=some (.int .i64 n) from rfl] at e0
 replace k0:=hd_ k0;replace r0:=hd_ r0;replace s0:=hd_ s0;replace hq:=hd_ hq
 obtain⟨nb,u0⟩:∃ nb,nb=w.heap.size:=⟨_,rfl⟩
 rw [← u0] at r0
 go_enter Tryz.func232,Tryz.ntmps232
 go_upto_region 1 with (fail)
 rw [← w0,← u0]
 clear w0;replace u0:=hd_ u0
 rcases ns hn hn7 with rfl | rfl | rfl | rfl | rfl
 ·have hc:∀ j (h:j<([h1,h2,h3]:List Int).length),W1.cell? ⟨nb,1+j,none⟩=some (.int .i64 ([h1,h2,h3]:List Int)[j]):=by
   intro j h
   rw [Z00 r0.out]
   rcases (by simp at h;omega:j=0∨j=1∨j=2) with rfl | rfl | rfl<;>rfl
  replace hc:=hd_ hc;clear hn hn7;go_wp2_with fail
  refine (Z2t nb 1 7 [h1,h2,h3] _ (by simp) hc.out).mono ?_
  rintro r w2 ⟨v2,rfl,b0,j0⟩
  obtain⟨g,p0,rfl,_,_⟩:=b0.form (by simp)
  have f0:=s0.out.below j0
  have d0:=k0.out.trans (j0.mono k0.out.size)
  clear e0 j0;replace b0:=hd_ b0;replace f0:=hd_ f0;replace d0:=hd_ d0;go_wp2_with fail
  refine (Z3b g p0 _ [h1,h2,h3] _ b0.out (by simp)).mono ?_
  rintro r w3 ⟨rfl,l0,i0⟩
  have t0:w.heap.size≤g:=Nat.le_trans k0.out.size (b0.out.lt g rfl).1
  have q0:=d0.out.trans (i0.below d0.out.size fun k hk=>by have:k=g:=hk;omega)
  have g0:qO w3 b 3 mem me H P last:=⟨Z0g f0.out.1 i0 (fun e=>by have:=Z04 hq.out.1;omega),f0.out.2⟩
  have e0:=Z00 g0.1 0
  rw [show (qC 3 mem me H P last)[0]?=some (.int .i64 3) from rfl] at e0
  have a0:(Z27 [h1,h2,h3]).length=3:=Z2s _
  obtain⟨a3,c3,m0,o0,v0,n0⟩:=l0.rd
  rw [a0] at m0
  injection m0 with q1 q2 q3
  subst q3
  obtain⟨g',off,e3,hx⟩:=n0 (by rw [a0];omega)
  rw [e3] at q1
  injection q1 with q1;injection q1 with q1 q4
  subst q1 q4
  have hx:=hx 1 (by rw [a0];omega)
  have c0:(Z27 [h1,h2,h3])[1]'(by rw [a0];omega)=medS [h0,h1,h2,h3,h4,h5,h6,h7] (Int.toNat 3):=by
   show _=(Z27 [h1,h2,h3]).getD 1 0
   simp [List.getD,a0]
  rw [c0] at hx
  clear c0;clear l0 i0 n0 a0 o0 e3;replace g0:=hd_ g0;go_wp2
  go_ret
  exact⟨rfl,q0⟩
 ·have hc:∀ j (h:j<([h1,h2,h3,h4]:List Int).length),W1.cell? ⟨nb,1+j,none⟩=some (.int .i64 ([h1,h2,h3,h4]:List Int)[j]):=by
   intro j h
   rw [Z00 r0.out]
   rcases (by simp at h;omega:j=0∨j=1∨j=2∨j=3) with rfl | rfl | rfl | rfl<;>rfl
  replace hc:=hd_ hc;clear hn hn7;go_wp2_with fail
  refine (Z2t nb 1 7 [h1,h2,h3,h4] _ (by simp) hc.out).mono ?_
  rintro r w2 ⟨v2,rfl,b0,j0⟩
  obtain⟨g,p0,rfl,_,_⟩:=b0.form (by simp)
  have f0:=s0.out.below j0
  have d0:=k0.out.trans (j0.mono k0.out.size)
  clear e0 j0;replace b0:=hd_ b0;replace f0:=hd_ f0;replace d0:=hd_ d0;go_wp2_with fail
  refine (Z3b g p0 _ [h1,h2,h3,h4] _ b0.out (by simp)).mono ?_
  rintro r w3 ⟨rfl,l0,i0⟩
  have t0:w.heap.size≤g:=Nat.le_trans k0.out.size (b0.out.lt g rfl).1
  have q0:=d0.out.trans (i0.below d0.out.size fun k hk=>by have:k=g:=hk;omega)
  have g0:qO w3 b 4 mem me H P last:=⟨Z0g f0.out.1 i0 (fun e=>by have:=Z04 hq.out.1;omega),f0.out.2⟩
  have e0:=Z00 g0.1 0
  rw [show (qC 4 mem me H P last)[0]?=some (.int .i64 4) from rfl] at e0
  have a0:(Z27 [h1,h2,h3,h4]).length=4:=Z2s _
  obtain⟨a3,c3,m0,o0,v0,n0⟩:=l0.rd
  rw [a0] at m0
  injection m0 with q1 q2 q3
  subst q3
  obtain⟨g',off,e3,hx⟩:=n0 (by rw [a0];omega)
  rw [e3] at q1
  injection q1 with q1;injection q1 with q1 q4
  subst q1 q4
  have hx:=hx 1 (by rw [a0];omega)
  have c0:(Z27 [h1,h2,h3,h4])[1]'(by rw [a0];omega)=medS [h0,h1,h2,h3,h4,h5,h6,h7] (Int.toNat 4):=by
   show _=(Z27 [h1,h2,h3,h4]).getD 1 0
   simp [List.getD,a0]
  rw [c0] at hx
  clear c0;clear l0 i0 n0 a0 o0 e3;replace g0:=hd_ g0;go_wp2
  go_ret
  exact⟨rfl,q0⟩
 ·have hc:∀ j (h:j<([h1,h2,h3,h4,h5]:List Int).length),W1.cell? ⟨nb,1+j,none⟩=some (.int .i64 ([h1,h2,h3,h4,h5]:List Int)[j]):=by
   intro j h
   rw [Z00 r0.out]
   rcases (by simp at h;omega:j=0∨j=1∨j=2∨j=3∨j=4) with rfl | rfl | rfl | rfl | rfl<;>rfl
  replace hc:=hd_ hc;clear hn hn7;go_wp2_with fail
  refine (Z2t nb 1 7 [h1,h2,h3,h4,h5] _ (by simp) hc.out).mono ?_
  rintro r w2 ⟨v2,rfl,b0,j0⟩
  obtain⟨g,p0,rfl,_,_⟩:=b0.form (by simp)
  have f0:=s0.out.below j0
  have d0:=k0.out.trans (j0.mono k0.out.size)
  clear e0 j0;replace b0:=hd_ b0;replace f0:=hd_ f0;replace d0:=hd_ d0;go_wp2_with fail
  refine (Z3b g p0 _ [h1,h2,h3,h4,h5] _ b0.out (by simp)).mono ?_
  rintro r w3 ⟨rfl,l0,i0⟩
  have t0:w.heap.size≤g:=Nat.le_trans k0.out.size (b0.out.lt g rfl).1
  have q0:=d0.out.trans (i0.below d0.out.size fun k hk=>by have:k=g:=hk;omega)
  have g0:qO w3 b 5 mem me H P last:=⟨Z0g f0.out.1 i0 (fun e=>by have:=Z04 hq.out.1;omega),f0.out.2⟩
  have e0:=Z00 g0.1 0
  rw [show (qC 5 mem me H P last)[0]?=some (.int .i64 5) from rfl] at e0
  have a0:(Z27 [h1,h2,h3,h4,h5]).length=5:=Z2s _
  obtain⟨a3,c3,m0,o0,v0,n0⟩:=l0.rd
  rw [a0] at m0
  injection m0 with q1 q2 q3
  subst q3
  obtain⟨g',off,e3,hx⟩:=n0 (by rw [a0];omega)
  rw [e3] at q1
  injection q1 with q1;injection q1 with q1 q4
  subst q1 q4
  have hx:=hx 2 (by rw [a0];omega)
  have c0:(Z27 [h1,h2,h3,h4,h5])[2]'(by rw [a0];omega)=medS [h0,h1,h2,h3,h4,h5,h6,h7] (Int.toNat 5):=by
   show _=(Z27 [h1,h2,h3,h4,h5]).getD 2 0
   simp [List.getD,a0]
  rw [c0] at hx
  clear c0;clear l0 i0 n0 a0 o0 e3;replace g0:=hd_ g0;go_wp2
  go_ret
  exact⟨rfl,q0⟩
 ·have hc:∀ j (h:j<([h1,h2,h3,h4,h5,h6]:List Int).length),W1.cell? ⟨nb,1+j,none⟩=some (.int .i64 ([h1,h2,h3,h4,h5,h6]:List Int)[j]):=by
   intro j h
   rw [Z00 r0.out]
   rcases (by simp at h;omega:j=0∨j=1∨j=2∨j=3∨j=4∨j=5) with rfl | rfl | rfl | rfl | rfl | rfl<;>rfl
  replace hc:=hd_ hc;clear hn hn7;go_wp2_with fail
  refine (Z2t nb 1 7 [h1,h2,h3,h4,h5,h6] _ (by simp) hc.out).mono ?_
  rintro r w2 ⟨v2,rfl,b0,j0⟩
  obtain⟨g,p0,rfl,_,_⟩:=b0.form (by simp)
  have f0:=s0.out.below j0
  have d0:=k0.out.trans (j0.mono k0.out.size)
  clear e0 j0;replace b0:=hd_ b0;replace f0:=hd_ f0;replace d0:=hd_ d0;go_wp2_with fail
  refine (Z3b g p0 _ [h1,h2,h3,h4,h5,h6] _ b0.out (by simp)).mono ?_
  rintro r w3 ⟨rfl,l0,i0⟩
  have t0:w.heap.size≤g:=Nat.le_trans k0.out.size (b0.out.lt g rfl).1
  have q0:=d0.out.trans (i0.below d0.out.size fun k hk=>by have:k=g:=hk;omega)
  have g0:qO w3 b 6 mem me H P last:=⟨Z0g f0.out.1 i0 (fun e=>by have:=Z04 hq.out.1;omega),f0.out.2⟩
  have e0:=Z00 g0.1 0
  rw [show (qC 6 mem me H P last)[0]?=some (.int .i64 6) from rfl] at e0
  have a0:(Z27 [h1,h2,h3,h4,h5,h6]).length=6:=Z2s _
  obtain⟨a3,c3,m0,o0,v0,n0⟩:=l0.rd
  rw [a0] at m0
  injection m0 with q1 q2 q3
  subst q3
  obtain⟨g',off,e3,hx⟩:=n0 (by rw [a0];omega)
  rw [e3] at q1
  injection q1 with q1;injection q1 with q1 q4
  subst q1 q4
  have hx:=hx 2 (by rw [a0];omega)
  have c0:(Z27 [h1,h2,h3,h4,h5,h6])[2]'(by rw [a0];omega)=medS [h0,h1,h2,h3,h4,h5,h6,h7] (Int.toNat 6):=by
   show _=(Z27 [h1,h2,h3,h4,h5,h6]).getD 2 0
   simp [List.getD,a0]
  rw [c0] at hx
  clear c0;clear l0 i0 n0 a0 o0 e3;replace g0:=hd_ g0;go_wp2
  go_ret
  exact⟨rfl,q0⟩
 ·have hc:∀ j (h:j<([h1,h2,h3,h4,h5,h6,h7]:List Int).length),W1.cell? ⟨nb,1+j,none⟩=some (.int .i64 ([h1,h2,h3,h4,h5,h6,h7]:List Int)[j]):=by
   intro j h
   rw [Z00 r0.out]
   rcases (by simp at h;omega:j=0∨j=1∨j=2∨j=3∨j=4∨j=5∨j=6) with rfl | rfl | rfl | rfl | rfl | rfl | rfl<;>rfl
  replace hc:=hd_ hc;clear hn hn7;go_wp2_with fail
  refine (Z2t nb 1 7 [h1,h2,h3,h4,h5,h6,h7] _ (by simp) hc.out).mono ?_
  rintro r w2 ⟨v2,rfl,b0,j0⟩
  obtain⟨g,p0,rfl,_,_⟩:=b0.form (by simp)
  have f0:=s0.out.below j0
  have d0:=k0.out.trans (j0.mono k0.out.size)
  clear e0 j0;replace b0:=hd_ b0;replace f0:=hd_ f0;replace d0:=hd_ d0;go_wp2_with fail
  refine (Z3b g p0 _ [h1,h2,h3,h4,h5,h6,h7] _ b0.out (by simp)).mono ?_
  rintro r w3 ⟨rfl,l0,i0⟩
  have t0:w.heap.size≤g:=Nat.le_trans k0.out.size (b0.out.lt g rfl).1
  have q0:=d0.out.trans (i0.below d0.out.size fun k hk=>by have:k=g:=hk;omega)
  have g0:qO w3 b 7 mem me H P last:=⟨Z0g f0.out.1 i0 (fun e=>by have:=Z04 hq.out.1;omega),f0.out.2⟩
  have e0:=Z00 g0.1 0
  rw [show (qC 7 mem me H P last)[0]?=some (.int .i64 7) from rfl] at e0
  have a0:(Z27 [h1,h2,h3,h4,h5,h6,h7]).length=7:=Z2s _
  obtain⟨a3,c3,m0,o0,v0,n0⟩:=l0.rd
  rw [a0] at m0
  injection m0 with q1 q2 q3
  subst q3
  obtain⟨g',off,e3,hx⟩:=n0 (by rw [a0];omega)
  rw [e3] at q1
  injection q1 with q1;injection q1 with q1 q4
  subst q1 q4
  have hx:=hx 3 (by rw [a0];omega)
  have c0:(Z27 [h1,h2,h3,h4,h5,h6,h7])[3]'(by rw [a0];omega)=medS [h0,h1,h2,h3,h4,h5,h6,h7] (Int.toNat 7):=by
   show _=(Z27 [h1,h2,h3,h4,h5,h6,h7]).getD 3 0
   simp [List.getD,a0]
  rw [c0] at hx
  clear c0;clear l0 i0 n0 a0 o0 e3;replace g0:=hd_ g0;go_wp2
  go_ret
  exact⟨rfl,q0⟩
end
section
open Go.RowKit
abbrev z8:List Int:=[0,0,0,0,0,0,0,0]
theorem qNew_ok (n mem me:Int) (w:World) (hm:Z2x mem n=true) (hme:Z18 mem.toNat me=true) :
  Calls Tryz.prog 176 #[.int .i64 n, .int .i64 mem, .int .i64 me] w fun r w'=>r=.returned (.pointer (some ⟨w.heap.size,0,none⟩))∧qO w' w.heap.size n mem me z8 z8 0∧Below w.heap.size w w':=by
 have hb:0≤mem∧mem<128:=Zc0 (by simp only [Z2x,Bool.and_eq_true] at hm;exact hm.1)
 replace hm:=hd_ hm;replace hme:=hd_ hme
 go_enter Tryz.func176,Tryz.ntmps176
 go_wp2_with fail
 refine (Z4x mem n _).mono ?_
 rintro r w2 ⟨rfl,rfl⟩
 rw [hm.out]
 go_wp2_with fail
 refine (Z3g mem me _ hb).mono ?_
 rintro r w2 ⟨rfl,rfl⟩
 rw [hme.out]
 go_wp2
 go_ret
 exact⟨rfl,⟨Z0a _ _,rfl,rfl⟩,(Below.refl _ _).alloc (Nat.le_refl _) _⟩
theorem qNew_no2 (n mem me:Int) (w:World) (hm:Z2x mem n=true) (hme:Z18 mem.toNat me=false) :
  Calls Tryz.prog 176 #[.int .i64 n, .int .i64 mem, .int .i64 me] w fun r w'=>r=.returned (.pointer none)∧w=w':=by
 have hb:0≤mem∧mem<128:=Zc0 (by simp only [Z2x,Bool.and_eq_true] at hm;exact hm.1)
 replace hm:=hd_ hm;replace hme:=hd_ hme
 go_enter Tryz.func176,Tryz.ntmps176
 go_wp2_with fail
 refine (Z4x mem n _).mono ?_
 rintro r w2 ⟨rfl,rfl⟩
 rw [hm.out]
 go_wp2_with fail
 refine (Z3g mem me _ hb).mono ?_
 rintro r w2 ⟨rfl,rfl⟩
 rw [hme.out]
 go_wp2
 go_ret
 exact⟨rfl,rfl⟩
theorem Z4d (b:Nat) (n mem me:Int) (H P:List Int) (last id:Int) (w:World) (hq:qO w b n mem me H P last) (hm:0≤mem∧mem<128) :
  Calls Tryz.prog 183 #[.pointer (some ⟨b,0,none⟩), .int .i64 id] w fun r w'=>r=.returned (.bool (Z18 mem.toNat id))∧w=w':=by
 have e1:=Z00 hq.1 1
 rw [show (qC n mem me H P last)[1]?=some (.int .i64 mem) from rfl] at e1
 replace hq:=hd_ hq
 go_enter Tryz.func183,Tryz.ntmps183
 go_wp2_with fail
 refine (Z3g mem id _ hm).mono ?_
 rintro r w2 ⟨rfl,rfl⟩;go_wp2
 go_ret
 exact⟨rfl,rfl⟩
theorem Zi1 (b:Nat) (n mem me:Int) (H P:List Int) (last id hv pr:Int) (w:World) (hq:qO w b n mem me H P last) (hm:0≤mem∧mem<128) (hno:(Z18 mem.toNat id&&decide (0≤hv)&&decide (hv≤60))=false) :
  Calls Tryz.prog 177 #[.pointer (some ⟨b,0,none⟩), .int .i64 id, .int .i64 hv, .int .i64 pr] w fun r w'=>r=.returned (.bool false)∧w=w':=by
 cases hid:Z18 mem.toNat id
 ·replace hid:=hd_ hid
  go_enter Tryz.func177,Tryz.ntmps177
  go_wp2_with fail
  refine (Z4d b n mem me H P last id _ hq hm).mono ?_
  rintro r w2 ⟨rfl,rfl⟩
  rw [hid.out]
  go_wp2
  go_ret
  exact⟨rfl,rfl⟩
 ·rw [hid] at hno
  replace hid:=hd_ hid
  by_cases c1:hv<0
  ·clear hno
   go_enter Tryz.func177,Tryz.ntmps177
   go_wp2_with fail
   refine (Z4d b n mem me H P last id _ hq hm).mono ?_
   rintro r w2 ⟨rfl,rfl⟩
   rw [hid.out]
   go_wp2
   go_ret
   exact⟨rfl,rfl⟩
  ·have c2:60<hv:=by simp at hno;omega
   clear hno
   go_enter Tryz.func177,Tryz.ntmps177
   go_wp2_with fail
   refine (Z4d b n mem me H P last id _ hq hm).mono ?_
   rintro r w2 ⟨rfl,rfl⟩
   rw [hid.out]
   go_wp2
   go_ret
   exact⟨rfl,rfl⟩
def ackP (P:List Int) (id:Nat) (pr last:Int):List Int:=if pr≤last then P.set id (max (P.getD id 0) pr) else P
theorem Ze2 (b:Nat) (n mem me:Int) (H P:List Int) (last:Int) (id:Nat) (hv pr:Int) (w:World) (hq:qO w b n mem me H P last) (hm:0≤mem∧mem<128) (hid:Z18 mem.toNat id=true) (hi1:1≤id) (hi7:id≤7) (hv0:0≤hv) (hv60:hv≤60) :
  Calls Tryz.prog 177 #[.pointer (some ⟨b,0,none⟩), .int .i64 id, .int .i64 hv, .int .i64 pr] w fun r w'=>r=.returned (.bool true) ∧
   qO w' b n mem me (H.set id (max (H.getD id 0) hv)) (ackP P id pr last) last∧Chg (fun k=>k=b) w w':=by
 obtain⟨x,hx⟩:∃ x,H.getD id 0=x:=⟨_,rfl⟩
 obtain⟨y,hy⟩:∃ y,P.getD id 0=y:=⟨_,rfl⟩
 rw [hx]
 replace hid:=hd_ hid
 have e3:=Z00 hq.1 (3+id)
 rw [qC_H hq.2.1 hq.2.2 (by omega),hx] at e3
 have z3:=Z03 hq.1 (3+id)
 have hbl:=Z04 hq.1
 have hi8:id<8:=by omega
 have b0:=Z0d (o:=3+id) (u:=.int .i64 (max x hv)) hq.1
 rw [qC_setH hq.2.1 hq.2.2 (by omega)] at b0
 have a0:qO (w.setCell ⟨b,3+id,none⟩ (.int .i64 (max x hv))).drew b n mem me (H.set id (max x hv)) P last:=⟨b0,by rw [List.length_set];exact hq.2.1,hq.2.2⟩
 have c0:Chg (fun k=>k=b) w (w.setCell ⟨b,3+id,none⟩ (.int .i64 (max x hv))).drew:=(Z06 (F:=fun k=>k=b) (Chg.refl _ _) rfl).on ((Below.refl _ _).drew)
 replace a0:=hd_ a0;replace c0:=hd_ c0;replace hx:=hd_ hx;replace hy:=hd_ hy;replace hq:=hd_ hq;clear b0
 go_enter Tryz.func177,Tryz.ntmps177
 go_wp2_with fail
 refine (Z4d b n mem me H P last id _ hq.out hm).mono ?_
 rintro r w2 ⟨rfl,rfl⟩
 rw [hid.out]
 go_upto_region 3 with (fail)
 go_region
 clear e3 z3
 generalize (World.setCell w _ _).drew=w3 at a0 c0 ⊢
 have h0:=Z00 a0.out.1 19
 rw [Z77 a0.out.2.1 a0.out.2.2] at h0
 have i0:=Z04 a0.out.1
 by_cases hp:pr≤last
 ·have d0:=hd_ hp
  have g0:=Z00 a0.out.1 (11+id)
  rw [qC_P a0.out.2.1 a0.out.2.2 (by omega),hy.out] at g0
  have z11:=Z03 a0.out.1 (11+id)
  have b0:=Z0d (o:=11+id) (u:=.int .i64 (max y pr)) a0.out.1
  rw [Zi0 a0.out.2.1 a0.out.2.2 (by omega)] at b0
  have e0:qO (w3.setCell ⟨b,11+id,none⟩ (.int .i64 (max y pr))).drew b n mem me (H.set id (max x hv)) (P.set id (max y pr)) last:=⟨b0,a0.out.2.1,by rw [List.length_set];exact a0.out.2.2⟩
  have f0:Chg (fun k=>k=b) w (w3.setCell ⟨b,11+id,none⟩ (.int .i64 (max y pr))).drew:=(Z06 (F:=fun k=>k=b) c0.out rfl).on ((Below.refl _ _).drew)
  replace e0:=hd_ e0;replace f0:=hd_ f0;clear b0;go_upto_region 5 with (fail)
  go_region
  go_wp2
  go_ret
  exact⟨rfl,by rw [ackP,if_pos d0.out,hy.out];exact e0.out,f0.out⟩
 ·have d0:=hd_ hp
  go_wp2
  go_ret
  exact⟨rfl,by rw [ackP,if_neg (by have:=d0.out;omega)];exact a0.out,c0.out⟩
theorem Zi2 (b:Nat) (n mem me:Int) (H P:List Int) (last:Int) (w:World) (hq:qO w b n mem me H P last) :
  Calls Tryz.prog 205 #[.pointer (some ⟨b,0,none⟩)] w fun r w'=>r=.returned (.int .i64 last)∧w=w':=by
 have a0:=Z00 hq.1 19
 rw [Z77 hq.2.1 hq.2.2] at a0
 replace hq:=hd_ hq
 go_enter Tryz.func205,Tryz.ntmps205
 go_wp2
 go_ret
 exact⟨rfl,rfl⟩
theorem Zi3 (b:Nat) (n mem me:Int) (H P:List Int) (last:Int) (id:Nat) (w:World) (hq:qO w b n mem me H P last) (hm:0≤mem∧mem<128) (hid:Z18 mem.toNat id=true) (hi7:id≤7) :
  Calls Tryz.prog 136 #[.pointer (some ⟨b,0,none⟩), .int .i64 id] w fun r w'=>r=.returned (.int .i64 (H.getD id 0))∧w=w':=by
 obtain⟨x,hx⟩:∃ x,H.getD id 0=x:=⟨_,rfl⟩
 rw [hx]
 have e3:=Z00 hq.1 (3+id)
 rw [qC_H hq.2.1 hq.2.2 (by omega),hx] at e3
 have hi8:id<8:=by omega
 have a0:=hd_ hq
 replace hx:=hd_ hx;replace hid:=hd_ hid;clear hq
 go_enter Tryz.func136,Tryz.ntmps136
 go_wp2_with fail
 refine (Z4d b n mem me H P last id _ a0.out hm).mono ?_
 rintro r w2 ⟨rfl,rfl⟩
 rw [hid.out]
 go_wp2
 go_ret
 exact⟨rfl,rfl⟩
theorem qHave_no (b:Nat) (n mem me:Int) (H P:List Int) (last id:Int) (w:World) (hq:qO w b n mem me H P last) (hm:0≤mem∧mem<128) (hid:Z18 mem.toNat id=false) :
  Calls Tryz.prog 136 #[.pointer (some ⟨b,0,none⟩), .int .i64 id] w fun r w'=>r=.returned (.int .i64 0)∧w=w':=by
 replace hid:=hd_ hid
 go_enter Tryz.func136,Tryz.ntmps136
 go_wp2_with fail
 refine (Z4d b n mem me H P last id _ hq hm).mono ?_
 rintro r w2 ⟨rfl,rfl⟩
 rw [hid.out]
 go_wp2
 go_ret
 exact⟨rfl,rfl⟩
theorem Zi4 (b:Nat) (n mem me:Int) (H P:List Int) (last:Int) (m:Nat) (w:World) (hq:qO w b n mem me H P last) (hme:me=m) (hm7:m≤7) (hl0:0≤last) (hl:last<4611686018427387904) :
  Calls Tryz.prog 132 #[.pointer (some ⟨b,0,none⟩)] w fun r w'=>r=.returned (.int .i64 (last+1))∧qO w' b n mem me H (P.set m (last+1)) (last+1)∧Chg (fun k=>k=b) w w':=by
 have c0:=Z00 hq.1 19
 rw [Z77 hq.2.1 hq.2.2] at c0
 have h0:=Z03 hq.1 19
 have hbl:=Z04 hq.1
 have b0:=Z0d (o:=19) (u:=.int .i64 (last+1)) hq.1
 rw [qC_setL hq.2.1 hq.2.2] at b0
 have a0:qO (w.setCell ⟨b,19,none⟩ (.int .i64 (last+1))) b n mem me H P (last+1):=⟨b0,hq.2⟩
 have e0:Chg (fun k=>k=b) w (w.setCell ⟨b,19,none⟩ (.int .i64 (last+1))):=Z06 (Chg.refl _ _) rfl
 replace a0:=hd_ a0;replace e0:=hd_ e0;replace hq:=hd_ hq;clear b0
 go_enter Tryz.func132,Tryz.ntmps132
 go_upto_region 4 with (fail);clear c0 h0
 generalize World.setCell w _ _=w3 at a0 e0 ⊢
 have c0:=Z00 a0.out.1 19
 rw [Z77 a0.out.2.1 a0.out.2.2] at c0
 have e2:=Z00 a0.out.1 2
 rw [show (qC n mem me H P (last+1))[2]?=some (.int .i64 me) from rfl,hme] at e2
 have j0:=Z04 a0.out.1
 have hm8:m<8:=by omega
 have g0:=Z00 a0.out.1 (11+m)
 rw [qC_P a0.out.2.1 a0.out.2.2 (by omega)] at g0
 have i0:=Z03 a0.out.1 (11+m)
 have b0:=Z0d (o:=11+m) (u:=.int .i64 (last+1)) a0.out.1
 rw [Zi0 a0.out.2.1 a0.out.2.2 (by omega)] at b0
 have d0:qO (w3.setCell ⟨b,11+m,none⟩ (.int .i64 (last+1))).drew b n mem me H (P.set m (last+1)) (last+1):=⟨b0,a0.out.2.1,by rw [List.length_set];exact a0.out.2.2⟩
 have f0:Chg (fun k=>k=b) w (w3.setCell ⟨b,11+m,none⟩ (.int .i64 (last+1))).drew:=(Z06 (F:=fun k=>k=b) e0.out rfl).on ((Below.refl _ _).drew)
 replace d0:=hd_ d0;replace f0:=hd_ f0;replace hme:=hd_ hme;clear b0
 generalize P.getD m 0=y at g0
 go_region
 clear c0 e2 g0 i0
 generalize (World.setCell w3 _ _).drew=w5 at d0 f0 ⊢
 have c0:=Z00 d0.out.1 19
 rw [Z77 d0.out.2.1 d0.out.2.2] at c0
 go_wp2
 go_ret
 exact⟨rfl,d0.out,f0.out⟩
theorem Zca (b:Nat) (n mem me:Int) (H P:List Int) (last:Int) (w:World) (hq:qO w b n mem me H P last) (hn:3≤n) (hn7:n≤7) :
  Calls Tryz.prog 225 #[.pointer (some ⟨b,0,none⟩)] w fun r w'=>r=.returned (.int .i64 (medS H n.toNat))∧Below w.heap.size w w':=by
 have a0:=hd_ hq
 obtain⟨hb,hH,hP⟩:=hq
 obtain⟨h0,h1,h2,h3,h4,h5,h6,h7,rfl⟩:=Z4r H hH
 have e3:=Z00 hb 3
 have e4:=Z00 hb 4
 have e5:=Z00 hb 5
 have e6:=Z00 hb 6
 have e7:=Z00 hb 7
 have e8:=Z00 hb 8
 have e9:=Z00 hb 9
 have c0:=Z00 hb 10
 simp only [qC,List.map_cons,List.map_nil,List.cons_append,List.nil_append,List.getElem?_toArray,List.getElem?_cons_zero,List.getElem?_cons_succ] at e3 e4 e5 e6 e7 e8 e9 c0
 clear hb hH hP
 go_enter Tryz.func225,Tryz.ntmps225
 go_wp2_with fail
 refine (Zaf b n mem me _ P last h0 h1 h2 h3 h4 h5 h6 h7 _ a0.out hn hn7).mono ?_
 rintro r w2 ⟨rfl,b0⟩;go_wp2
 go_ret
 exact⟨rfl,b0⟩
theorem Zfl (b:Nat) (n mem me:Int) (H P:List Int) (last:Int) (w:World) (hq:qO w b n mem me H P last) (hn:3≤n) (hn7:n≤7) :
  Calls Tryz.prog 226 #[.pointer (some ⟨b,0,none⟩)] w fun r w'=>r=.returned (.int .i64 (medS P n.toNat))∧Below w.heap.size w w':=by
 have a0:=hd_ hq
 obtain⟨hb,hH,hP⟩:=hq
 obtain⟨g0,g1,g2,g3,g4,g5,g6,g7,rfl⟩:=Z4r H hH
 obtain⟨h0,h1,h2,h3,h4,h5,h6,h7,rfl⟩:=Z4r P hP
 have e3:=Z00 hb 11
 have e4:=Z00 hb 12
 have e5:=Z00 hb 13
 have e6:=Z00 hb 14
 have e7:=Z00 hb 15
 have e8:=Z00 hb 16
 have e9:=Z00 hb 17
 have c0:=Z00 hb 18
 simp only [qC,List.map_cons,List.map_nil,List.cons_append,List.nil_append,List.getElem?_toArray,List.getElem?_cons_zero,List.getElem?_cons_succ] at e3 e4 e5 e6 e7 e8 e9 c0
 clear hb hH hP
 go_enter Tryz.func226,Tryz.ntmps226
 go_wp2_with fail
 refine (Zaf b n mem me _ _ last h0 h1 h2 h3 h4 h5 h6 h7 _ a0.out hn hn7).mono ?_
 rintro r w2 ⟨rfl,b0⟩;go_wp2
 go_ret
 exact⟨rfl,b0⟩
theorem Ze3 (id:Int) (w:World):Calls Tryz.prog 183 #[.pointer none, .int .i64 id] w fun r w'=>r=.returned (.bool false)∧w=w':=by
 go_enter Tryz.func183,Tryz.ntmps183
 go_wp2
 go_ret
 exact⟨rfl,rfl⟩
theorem Ze4 (id hv pr:Int) (w:World):Calls Tryz.prog 177 #[.pointer none, .int .i64 id, .int .i64 hv, .int .i64 pr] w fun r w'=>r=.returned (.bool false)∧w=w':=by
 go_enter Tryz.func177,Tryz.ntmps177
 go_wp2_with fail
 refine (Ze3 id _).mono ?_
 rintro r w2 ⟨rfl,rfl⟩;go_wp2
 go_ret
 exact⟨rfl,rfl⟩
theorem Zi5 (id:Int) (w:World):Calls Tryz.prog 136 #[.pointer none, .int .i64 id] w fun r w'=>r=.returned (.int .i64 0)∧w=w':=by
 go_enter Tryz.func136,Tryz.ntmps136
 go_wp2_with fail
 refine (Ze3 id _).mono ?_
 rintro r w2 ⟨rfl,rfl⟩;go_wp2
 go_ret
 exact⟨rfl,rfl⟩
theorem Zcb (w:World):Calls Tryz.prog 225 #[.pointer none] w fun r w'=>r=.returned (.int .i64 0)∧w=w':=by
 go_enter Tryz.func225,Tryz.ntmps225
 go_wp2
 go_ret
 exact⟨rfl,rfl⟩
theorem Zfm (w:World):Calls Tryz.prog 226 #[.pointer none] w fun r w'=>r=.returned (.int .i64 0)∧w=w':=by
 go_enter Tryz.func226,Tryz.ntmps226
 go_wp2
 go_ret
 exact⟨rfl,rfl⟩
theorem Zi6 (w:World):Calls Tryz.prog 132 #[.pointer none] w fun r w'=>r=.returned (.int .i64 0)∧w=w':=by
 go_enter Tryz.func132,Tryz.ntmps132
 go_wp2
 go_ret
 exact⟨rfl,rfl⟩
theorem Zi7 (w:World):Calls Tryz.prog 205 #[.pointer none] w fun r w'=>r=.returned (.int .i64 0)∧w=w':=by
 go_enter Tryz.func205,Tryz.ntmps205
 go_wp2
 go_ret
 exact⟨rfl,rfl⟩
end
end Go.Proofs.YtbonjbokofkafaaGreat
