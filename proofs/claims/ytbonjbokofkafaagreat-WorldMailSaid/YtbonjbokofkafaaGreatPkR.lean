/- Lemmas of the proof: PkR. -/
import Derived.Test.YtbonjbokofkafaaGreatPkB
import Derived.Deep.DeepCutAuto
import Derived.Test.YtbonjbokofkafaaGreatPkA
import Derived.Lib.SliceRun
import Derived.Test.YtbonjbokofkafaaGreatPkI
import Derived.Test.YtbonjbokofkafaaGreatPkH
import Derived.Test.YtbonjbokofkafaaGreatPkD
namespace Go.Proofs.YtbonjbokofkafaaGreat
set_option linter.unusedVariables false
set_option maxRecDepth 100000
set_option maxHeartbeats 64000000
section
open Go.RowKit
theorem Zau (x e:Ent) (b:Nat) (w:World) (h:cellsE w b 0 e) :
  Calls Tryz.prog 212 #[x.val, .pointer (some ⟨b,0,none⟩)] w fun r w'=>r=.returned (.bool (Z35 x e))∧Below w.heap.size w w':=by
 have hlt:=h.lt
 obtain⟨c0,c1,c2,c3,c4,c5,c6⟩:=h
 rw [Nat.zero_add] at c1 c2 c3 c4 c5 c6
 obtain⟨a1,a2,a3,a4,a5,a6,a7⟩:=x
 simp only [Ent.val]
 go_enter Tryz.func212,Tryz.ntmps212
 go_wp2_with fail
 refine (Z51 ⟨a1,a2,a3,a4,a5,a6,a7⟩ e _).mono ?_
 rintro r w1 ⟨rfl,hb⟩;go_wp2
 go_ret
 exact⟨rfl,((Below.refl _ _).alloc (Nat.le_refl _) _).trans (hb.mono (by simp))⟩
theorem Zcx (v:Value) (l:List Ent) (e:Ent) (b:Nat) (w:World) (hr:rdE w v l) (hb:cellsE w b 0 e) :
  Calls Tryz.prog 228 #[v, .func (.func 212) #[] #[.pointer (some ⟨b,0,none⟩)]] w fun r w'=>(∃ n:Int,r=.returned (.int .i64 n)∧decide (0≤n)=Z5m l e)∧Below w.heap.size w w':=by
 obtain⟨a,cap,rfl,hm,hM,ha⟩:=hr
 unfold maxLen at hM
 replace ha:=hd_ ha;replace hb:=hd_ hb
 go_enter Tryz.func228,Tryz.ntmps228
 go_wp2
 go_loopw [8] (fun i wr=>∃ k:Nat,k≤l.length∧i=.int .i64 k∧Z5m (l.take k) e=false∧Below w.heap.size w wr) (fun i _=>l.length-(intOf i).toNat)
 case atStart=>exact⟨0,Nat.zero_le _,rfl,rfl,Below.refl _ _⟩
 case round=>
  obtain⟨k,hk,rfl,d0,a0⟩:=hrel
  replace d0:=hd_ d0
  by_cases hlt:k<l.length
  ·obtain⟨bl,off,rfl,hc⟩:=ha.out (by omega)
   have g0:=Z1o (hc k hlt) a0
   have hs:=hd_ (Za0 l e k hlt)
   clear hc
   generalize l[k]=x at g0 hs
   obtain⟨c0,c1,c2,c3,c4,c5,c6⟩:=g0
   have f0:cellsE wr b 0 e:=hb.out.below a0 hb.out.lt
   go_wp2_with fail
   refine (Zau x e b _ f0).mono ?_
   rintro r w1 ⟨rfl,e0⟩
   have b0:=a0.trans (e0.mono a0.size)
   clear e0 a0 c0 c1 c2 c3 c4 c5 c6 f0
   cases hsm:Z35 x e
   ·go_wp2
    go_roundw
    case rel=>exact⟨k+1,by omega,by go_num,by rw [hs.out,d0.out,hsm];rfl,b0⟩
    case measure=>simp [intOf];omega
   ·go_wp2
    go_ret
    exact⟨⟨(k:Int),rfl,by rw [Za1 l e (k+1) (by rw [hs.out,hsm,Bool.or_true])];simp⟩,b0⟩
  ·obtain rfl:k=l.length:=by omega
   rw [List.take_length] at d0
   go_wp2
   go_ret
   exact⟨⟨-1,rfl,by rw [d0.out];rfl⟩,a0⟩
theorem Z81 (v:Value) (l:List Ent) (e:Ent) (b:Nat) (w:World) (hr:rdE w v l) (hb:cellsE w b 0 e) :
  Calls Tryz.prog 211 #[v, .func (.func 212) #[] #[.pointer (some ⟨b,0,none⟩)]] w fun r w'=>r=.returned (.bool (Z5m l e))∧Below w.heap.size w w':=by
 go_enter Tryz.func211,Tryz.ntmps211
 go_wp2_with fail
 refine (Zcx v l e b w hr hb).mono ?_
 rintro r w1 ⟨⟨n,rfl,hn⟩,a0⟩;replace hn:=hd_ hn;go_wp2
 go_ret
 exact⟨Z0b hn.out,a0⟩
theorem Z7h (e:Ent) (lb:Nat) (v:Value) (l:List Ent) (w:World) (hl:w.cell? ⟨lb,0,none⟩=some v) (hr:rdE w v l) :
  Calls Tryz.prog 210 #[e.val, .pointer (some ⟨lb,0,none⟩)] w fun r w'=>r=.returned (.bool (Z5m l e))∧Below w.heap.size w w':=by
 obtain⟨W,hW⟩:∃ W,W=w.alloc (.cells #[.int .i64 e.frm, .int .i64 e.boot, .int .i64 e.seq, .int .i64 e.ord, .int .i64 e.lev, .int .i64 e.stamp, .string e.data] 134):=⟨_,rfl⟩
 have hB:Below w.heap.size w W:=hW ▸ (Below.refl _ _).alloc (Nat.le_refl _) _
 have a0:cellsE W w.heap.size 0 e:=hW ▸ Z2p w e 134
 have d0:=Z0f hl
 have c0:W.cell? ⟨lb,0,none⟩=some v:=by rw [hB.cell d0];exact hl
 have f0:=hd_ (hr.grow hB)
 have e0:=Z0f c0
 replace a0:=hd_ a0;replace hB:=hd_ hB;clear hl hr
 obtain⟨nb,b0⟩:∃ nb,nb=w.heap.size:=⟨_,rfl⟩
 rw [← b0] at a0
 simp only [Ent.val]
 go_enter Tryz.func210,Tryz.ntmps210
 go_upto_region 1 with (fail)
 rw [← hW,← b0]
 replace hW:=hd_ hW;replace b0:=hd_ b0;go_wp2_with fail
 refine (Z81 v l e nb _ f0.out a0.out).mono ?_
 rintro r w1 ⟨rfl,hb⟩;go_wp2
 go_ret
 exact⟨rfl,hB.out.trans (hb.mono hB.out.size)⟩
def goes (d l:List Ent) (n:Int):Prop:=(n = -1∧∀ e ∈ d,Z5m l e=false)∨∃ k:Nat,n=(k:Int)∧∃ h:k<d.length,Z5m l d[k]=true∧∀ e ∈ d.take k,Z5m l e=false
theorem Zcy (v lv:Value) (d l:List Ent) (lb:Nat) (w:World) (hr:rdE w v d) (hl:w.cell? ⟨lb,0,none⟩=some lv) (hrl:rdE w lv l) :
  Calls Tryz.prog 228 #[v, .func (.func 210) #[] #[.pointer (some ⟨lb,0,none⟩)]] w fun r w'=>(∃ n:Int,r=.returned (.int .i64 n)∧goes d l n)∧Below w.heap.size w w':=by
 obtain⟨a,cap,rfl,hm,hM,ha⟩:=hr
 unfold maxLen at hM
 replace ha:=hd_ ha;replace hl:=hd_ hl;replace hrl:=hd_ hrl
 go_enter Tryz.func228,Tryz.ntmps228
 go_wp2
 go_loopw [8] (fun i wr=>∃ k:Nat,k≤d.length∧i=.int .i64 k∧(∀ e ∈ d.take k,Z5m l e=false)∧Below w.heap.size w wr) (fun i _=>d.length-(intOf i).toNat)
 case atStart=>exact⟨0,Nat.zero_le _,rfl,fun e h=>(by simp at h),Below.refl _ _⟩
 case round=>
  obtain⟨k,hk,rfl,d0,a0⟩:=hrel
  replace d0:=hd_ d0
  by_cases hlt:k<d.length
  ·obtain⟨bl,off,rfl,hc⟩:=ha.out (by omega)
   have f0:=Z1o (hc k hlt) a0
   have hs:=hd_ (List.take_succ_eq_append_getElem hlt)
   have g0:Hid (∀ e,e=d[k]→Z5m l e=true→goes d l k):=hd_ fun e h1 h2=>.inr ⟨k,rfl,hlt,h1 ▸ h2,d0.out⟩
   clear hc
   generalize d[k]=x at f0 hs g0
   obtain⟨c0,c1,c2,c3,c4,c5,c6⟩:=f0
   have h0:wr.cell? ⟨lb,0,none⟩=some lv:=by rw [a0.cell (Z0f hl.out)];exact hl.out
   have hC:=hd_ (Z7h x lb lv l wr h0 (hrl.out.grow a0))
   clear h0;go_wp2_with fail
   refine hC.out.mono ?_
   rintro r w1 ⟨rfl,e0⟩
   have b0:=a0.trans (e0.mono a0.size)
   clear e0 a0 c0 c1 c2 c3 c4 c5 c6 hC
   cases hsm:Z5m l x
   ·go_wp2
    go_roundw
    case rel=>exact⟨k+1,by omega,by go_num,by
     rw [hs.out]
     intro e he
     rcases List.mem_append.1 he with h | h
     ·exact d0.out e h
     ·rw [List.mem_singleton.1 h];exact hsm,b0⟩
    case measure=>simp [intOf];omega
   ·go_wp2
    go_ret
    exact⟨⟨(k:Int),rfl,g0.out x rfl hsm⟩,b0⟩
  ·obtain rfl:k=d.length:=by omega
   rw [List.take_length] at d0
   go_wp2
   go_ret
   exact⟨⟨-1,rfl, .inl ⟨rfl,d0.out⟩⟩,a0⟩
end
section
open Go.RowKit
theorem store7 {w:World} {g o:Nat} {cur:Array Value} {E:TypeId} (h:w.heap[g]?=some (.cells cur E (0,0))) (ho:o+7≤cur.size) (x:Ent) {W:World}
  (hW:W=((((((w.setCell ⟨g,o,none⟩ (.int .i64 x.frm)).setCell ⟨g,o+1,none⟩ (.int .i64 x.boot)).setCell ⟨g,o+2,none⟩ (.int .i64 x.seq)).setCell ⟨g,o+3,none⟩ (.int .i64 x.ord)).setCell ⟨g,o+4,none⟩ (.int .i64 x.lev)).setCell ⟨g,o+5,none⟩ (.int .i64 x.stamp)).setCell ⟨g,o+6,none⟩ (.string x.data)) :
  (∃ cur',W.heap[g]?=some (.cells cur' E (0,0))∧cur'.size=cur.size)∧cellsE W g o x∧(∀ o2 e,(o2+7≤o∨o+7≤o2)→cellsE w g o2 e→cellsE W g o2 e)∧Chg (fun k=>k=g) w W:=by
 have hb:W.heap[g]?=some (.cells (((((((cur.setIfInBounds o (.int .i64 x.frm)).setIfInBounds (o+1) (.int .i64 x.boot)).setIfInBounds (o+2) (.int .i64 x.seq)).setIfInBounds (o+3) (.int .i64 x.ord)).setIfInBounds (o+4) (.int .i64 x.lev)).setIfInBounds (o+5) (.int .i64 x.stamp)).setIfInBounds (o+6) (.string x.data)) E (0,0)):=
  hW ▸ Z0d (Z0d (Z0d (Z0d (Z0d (Z0d (Z0d h))))))
 have hc:Chg (fun k=>k=g) w W:=hW ▸ Z06 (Z06 (Z06 (Z06 (Z06 (Z06 (Z06 (Chg.refl _ _) rfl) rfl) rfl) rfl) rfl) rfl) rfl
 refine⟨⟨_,hb,by simp⟩,?_,?_,hc⟩
 ·unfold cellsE
  simp only [Z00 hb]
  simp only [Array.getElem?_setIfInBounds,Array.size_setIfInBounds]
  refine⟨?_,?_,?_,?_,?_,?_,?_⟩
  all_goals simp only [show ∀ a b:Nat,(o+a=o+b)=(a=b) from fun a b=>by simp,show ∀ a:Nat,(o+(a+1)=o)=False from fun a=>by simp,show ∀ a:Nat,(o=o+(a+1))=False from fun a=>by simp]
  all_goals simp
  all_goals omega
 ·intro o2 e hd he
  unfold cellsE at he ⊢
  simp only [Z00 h] at he
  simp only [Z00 hb]
  have far:∀ q,(q<o∨o+7≤q)→((((((((cur.setIfInBounds o (.int .i64 x.frm)).setIfInBounds (o+1) (.int .i64 x.boot)).setIfInBounds (o+2) (.int .i64 x.seq)).setIfInBounds (o+3) (.int .i64 x.ord)).setIfInBounds (o+4) (.int .i64 x.lev)).setIfInBounds (o+5) (.int .i64 x.stamp)).setIfInBounds (o+6) (.string x.data)):Array Value)[q]?=cur[q]?:=by
   intro q hq
   rw [Array.getElem?_setIfInBounds_ne (by omega),Array.getElem?_setIfInBounds_ne (by omega),Array.getElem?_setIfInBounds_ne (by omega),Array.getElem?_setIfInBounds_ne (by omega),Array.getElem?_setIfInBounds_ne (by omega),Array.getElem?_setIfInBounds_ne (by omega),Array.getElem?_setIfInBounds_ne (by omega)]
  rw [far _ (by omega),far _ (by omega),far _ (by omega),far _ (by omega),far _ (by omega),far _ (by omega),far _ (by omega)]
  exact he
theorem Z6h {w:World} {g cap:Nat} {cur:Array Value} {E:TypeId} {ks:List Ent} (h:w.heap[g]?=some (.cells cur E (0,0))) (hs:cur.size=cap*7) (hn:ks.length≤cap) (hM:cap≤maxLen)
  (hc:∀ t (ht:t<ks.length),cellsE w g (t*7) ks[t]):ownE w 0 E (.slice (some ⟨g,0,none⟩) ks.length cap) ks:=by
 refine⟨Z50 ks, .inr ⟨g,cap,cur,rfl,Nat.zero_le _,h,hn,hM,hs,?_⟩⟩
 apply List.ext_getElem?
 intro q
 rw [List.getElem?_take]
 split
 ·next hq=>
  have h1:q / 7<ks.length:=by omega
  have h2:q % 7<7:=Nat.mod_lt _ (by omega)
  have h3:q / 7*7+q % 7=q:=by omega
  have h4:=Z6x ks (q / 7) h1 (q % 7) h2
  rw [h3] at h4
  rw [h4]
  have h5:=hc _ h1
  unfold cellsE at h5
  simp only [Z00 h] at h5
  obtain⟨c0,c1,c2,c3,c4,c5,c6⟩:=h5
  rw [Array.getElem?_toList]
  generalize ks[q / 7]=x at c0 c1 c2 c3 c4 c5 c6 ⊢
  rcases (by omega:q % 7=0∨q % 7=1∨q % 7=2∨q % 7=3∨q % 7=4∨q % 7=5∨q % 7=6) with e | e | e | e | e | e | e
  ·rw [e,show cur[q]?=cur[q / 7*7]? from congrArg (fun i=>cur[i]?) (by omega),c0];rfl
  ·rw [e,show cur[q]?=cur[q / 7*7+1]? from congrArg (fun i=>cur[i]?) (by omega),c1];rfl
  ·rw [e,show cur[q]?=cur[q / 7*7+2]? from congrArg (fun i=>cur[i]?) (by omega),c2];rfl
  ·rw [e,show cur[q]?=cur[q / 7*7+3]? from congrArg (fun i=>cur[i]?) (by omega),c3];rfl
  ·rw [e,show cur[q]?=cur[q / 7*7+4]? from congrArg (fun i=>cur[i]?) (by omega),c4];rfl
  ·rw [e,show cur[q]?=cur[q / 7*7+5]? from congrArg (fun i=>cur[i]?) (by omega),c5];rfl
  ·rw [e,show cur[q]?=cur[q / 7*7+6]? from congrArg (fun i=>cur[i]?) (by omega),c6];rfl
 ·next hq=>rw [List.getElem?_eq_none];rw [Z50];omega
def Z1b (l d:List Ent):List Ent:=d.filter fun e => !Z5m l e
theorem Z8k (l d:List Ent) (j:Nat) (h:j<d.length):Z1b l (d.take (j+1))=Z1b l (d.take j)++if Z5m l d[j] then [] else [d[j]]:=by
 unfold Z1b
 rw [List.take_succ_eq_append_getElem h,List.filter_append]
 cases hh:Z5m l d[j]<;>simp [hh]
theorem Zav {l d:List Ent} (h:∀ e ∈ d,Z5m l e=false):Z1b l d=d:=by
 unfold Z1b
 rw [List.filter_eq_self]
 intro e he
 rw [h e he];rfl
theorem Z1v {g:Nat} {E:TypeId}:∀ (vs:List Value) (o:Nat) (w:World) (cur:Array Value),w.heap[g]?=some (.cells cur E (0,0))→(∃ cur',(w.setCells g o vs).heap[g]?=some (.cells cur' E (0,0))∧cur'.size=cur.size∧∀ q,q<o→cur'[q]?=cur[q]?)∧Chg (fun k=>k=g) w (w.setCells g o vs)
 | [],o,w,cur,h=>⟨⟨cur,h,rfl,fun _ _=>rfl⟩,Chg.refl _ _⟩
 | v :: vs,o,w,cur,h=>by
   obtain⟨⟨c,h1,h2,h3⟩,h4⟩:=Z1v vs (o+1) (w.setCell ⟨g,o,none⟩ v) _ (Z0d h)
   refine⟨⟨c,h1,by rw [h2];simp,fun q hq=>?_⟩,(Z06 (F:=fun k=>k=g) (Chg.refl _ w) rfl).more h4 fun i e=>.inl e⟩
   rw [h3 q (by omega),Array.getElem?_setIfInBounds_ne (by omega)]
theorem Ziz {F:Nat→Prop} {w w':World} {v:Value} {l:List Ent} (h:rdE w v l) (hc:Chg F w w') (hn:0<l.length→∀ k,v.ownBlock=some k→¬ F k):rdE w' v l:=by
 obtain⟨a,b0,rfl,hm,hM,ha⟩:=h
 refine⟨a,b0,rfl,hm,hM,fun h0=>?_⟩
 obtain⟨b,off,rfl,a0⟩:=ha h0
 refine⟨b,off,rfl,fun j hj=>?_⟩
 have c0:=(a0 j hj).lt
 have k:∀ o,w'.cell? ⟨b,o,none⟩=w.cell? ⟨b,o,none⟩:=fun o=>World.cell?_of_block (w:=w) (a:=⟨b,o,none⟩) (hc.block b c0 (hn h0 b rfl))
 have:=a0 j hj
 unfold cellsE at this ⊢
 simp only [k];exact this
def RowD (w wr:World) (g cap n:Nat) (E:TypeId) (d ks:List Ent) (j:Nat):Prop:=
 (∃ cur,wr.heap[g]?=some (.cells cur E (0,0))∧cur.size=cap*7)∧(∀ t (h:t<ks.length),cellsE wr g (t*7) ks[t])∧(∀ t (h:t<d.length),j≤t→cellsE wr g (t*7) d[t])∧Chg (fun k=>k=g) w wr
theorem Zaw (P:Program) (t e:TypeId) (z:Value) (zs:List Value) (ht:P.underlying t=some (.slice e)) (hv:∀ w,(zeroValue e).run P w=.ok z w) (hz:z.cells=zs.toArray) (h1:∀ u ∈ zs,u.oneCell'=true) (hz0:0<zs.length)
  {w:World} {g o n c:Nat} (hn:0<n) (hc:∀ j,j<n*zs.length→(w.cell? ⟨g,o+j,none⟩).isSome=true) (hf:∀ j,j<n*zs.length→w.frozen? ⟨g,o+j,none⟩=false) :
  ∃ news:List Value,∀ ty,(Builtin.clear_ #[t] ty #[.slice (some ⟨g,o,none⟩) n c]).run P w=.ok (.tuple #[]) (w.setCells g o news):=by
 have a0:(Builtin.zeroCells z.cells n).toList.length=n*zs.length:=by
  rw [hz]
  simp [Builtin.zeroCells]
 have c0:∀ v ∈ (Builtin.zeroCells z.cells n).toList,v.oneCell'=true:=by
  rw [hz]
  intro v hv
  simp only [Builtin.zeroCells,Array.toList_map,List.mem_map] at hv
  obtain⟨i,hi,rfl⟩:=hv
  have d0:i % zs.toArray.size<zs.toArray.size:=Nat.mod_lt _ (by simpa using hz0)
  rw [getElem!_pos zs.toArray _ d0]
  exact h1 _ (by simp)
 have b0:=run_storeCells_cells (P:=P) g o (Builtin.zeroCells z.cells n).toList 0 w (fun j hj=>hc j (by rw [a0] at hj;exact hj)) (fun j hj=>hf j (by rw [a0] at hj;exact hj)) c0
 simp only [Nat.add_zero] at b0
 refine⟨(Builtin.zeroCells z.cells n).toList,fun ty=>?_⟩
 obtain⟨m,rfl⟩:∃ m,n=m+1:=⟨n-1,by omega⟩
 simp [Builtin.clear_,run_underlying ht,hv,b0]
theorem Zcz (g cap:Nat) (cur:Array Value) (d l:List Ent) (lb:Nat) (lv:Value) (w:World) (hb:w.heap[g]?=some (.cells cur 134 (0,0))) (hs:cur.size=cap*7) (hn:d.length≤cap) (hM:cap≤maxLen)
  (hd:∀ t (h:t<d.length),cellsE w g (t*7) d[t]) (hl:w.cell? ⟨lb,0,none⟩=some lv) (hrl:rdE w lv l) (hne:lb≠g) (hnl:0<l.length→∀ k,lv.ownBlock=some k→k≠g) :
  Calls Tryz.prog 209 #[.slice (some ⟨g,0,none⟩) d.length cap, .func (.func 210) #[] #[.pointer (some ⟨lb,0,none⟩)]] w fun r w'=>
   r=.returned (.slice (some ⟨g,0,none⟩) (Z1b l d).length cap)∧ownE w' 0 134 (.slice (some ⟨g,0,none⟩) (Z1b l d).length cap) (Z1b l d)∧Chg (fun k=>k=g) w w':=by
 have hI:=hd_ (Zcy (.slice (some ⟨g,0,none⟩) d.length cap) lv d l lb w ⟨_,cap,rfl,hn,hM,fun _=>⟨g,0,rfl,fun j hj=>by rw [Nat.zero_add];exact hd j hj⟩⟩ hl hrl)
 unfold maxLen at hM
 have k1:RowD w w g cap d.length 134 d [] 0:=⟨⟨cur,hb,hs⟩,fun t h=>absurd h (by simp),fun t h _=>hd t h,Chg.refl _ _⟩
 replace k1:=hd_ k1;replace hd:=hd_ hd;replace hb:=hd_ hb;replace hl:=hd_ hl;replace hrl:=hd_ hrl;replace hnl:=hd_ hnl;replace hs:=hd_ hs
 go_enter Tryz.func209,Tryz.ntmps209
 go_wp2_with fail
 refine hI.out.mono ?_
 rintro r w1 ⟨⟨n,rfl,t1⟩,l0⟩;replace l0:=hd_ l0;clear hI
 rcases t1 with ⟨rfl,o0⟩ | ⟨k,rfl,hk,s0,p0⟩
 ·have hk:=hd_ (Zav o0)
  replace o0:=hd_ o0;go_wp2
  go_ret
  rw [hk.out]
  have hx:=Z02 hb.out l0.out
  exact⟨rfl,Z6h hx hs.out hn (by unfold maxLen;exact hM) (fun t ht=>(hd.out t ht).below l0.out (hd.out t ht).lt), .of_below l0.out⟩
 have x1:Hid ((Z1b l (d.take (k+1))).length=k∧RowD w w1 g cap d.length 134 d (Z1b l (d.take (k+1))) (k+1)):=hd_ (by
  have e:Z1b l (d.take (k+1))=d.take k:=by rw [Z8k l d k hk,s0,Zav p0];simp
  rw [e]
  have hc:=fun t (ht:t<d.length)=>(hd.out t ht).below l0.out (hd.out t ht).lt
  refine⟨by rw [List.length_take];omega,⟨cur,Z02 hb.out l0.out,hs.out⟩,fun t ht=>?_,fun t h _=>hc t h, .of_below l0.out⟩
  rw [List.getElem_take]
  exact hc t (by rw [List.length_take] at ht;omega))
 replace s0:=hd_ s0;replace p0:=hd_ p0
 have hk1:((k:Int) == -1)=false:=beq_eq_false_iff_ne.2 (by omega)
 go_wp2
 go_loopw [5,6,7] (fun s5 s6 _ wr=>∃ i j:Nat,s5=.int .i64 i∧s6=.int .i64 j∧j≤d.length∧i<j∧Hid ((Z1b l (d.take j)).length=i∧RowD w wr g cap d.length 134 d (Z1b l (d.take j)) j)) (fun _ j _ _=>d.length-(intOf j).toNat)
 case atStart=>exact⟨k,k+1,rfl,by go_num,hk,by omega,x1⟩
 case round=>
  obtain⟨i,j,rfl,rfl,hj,hij,hR⟩:=hrel
  by_cases hlt:j<d.length
  ·obtain⟨hi,⟨d0,k0,w0⟩,t0,r0,m0⟩:=hR.out
   have m1:=r0 j hlt (Nat.le_refl _)
   obtain⟨x,hx⟩:∃ x,x=d[j]:=⟨_,rfl⟩
   rw [← hx] at m1
   obtain⟨c0,c1,c2,c3,c4,c5,c6⟩:=m1
   obtain⟨W,hW⟩:∃ W,W=wr.alloc (.cells #[.int .i64 x.frm, .int .i64 x.boot, .int .i64 x.seq, .int .i64 x.ord, .int .i64 x.lev, .int .i64 x.stamp, .string x.data] 134):=⟨_,rfl⟩
   have x0:Below wr.heap.size wr W:=hW ▸ (Below.refl _ _).alloc (Nat.le_refl _) _
   have f1:cellsE W wr.heap.size 0 x:=hW ▸ Z2p wr x 134
   obtain⟨nb,g1⟩:∃ nb,nb=wr.heap.size:=⟨_,rfl⟩
   rw [← g1] at f1
   have j1:wr.cell? ⟨lb,0,none⟩=some lv:=by
    rw [World.cell?_of_block (w:=w) (a:=⟨lb,0,none⟩) (m0.block lb (Z0f hl.out) hne)];exact hl.out
   have p1:rdE wr lv l:=Ziz hrl.out m0 fun h0 k hk=>hnl.out h0 k hk
   have o1:W.cell? ⟨lb,0,none⟩=some lv:=by rw [x0.cell (Z0f j1)];exact j1
   have hC:=hd_ (Z7h x lb lv l W o1 (p1.grow x0))
   have y0:=Z8k l d j hlt
   rw [← hx] at y0
   replace y0:=hd_ y0;replace hx:=hd_ hx;replace k0:=hd_ k0;replace w0:=hd_ w0;replace t0:=hd_ t0;replace r0:=hd_ r0;replace m0:=hd_ m0;replace hi:=hd_ hi;clear j1 p1 o1
   have a1:=hd_ f1
   have y1:=f1.lt
   obtain⟨b0,b1,b2,b3,b4,b5,b6⟩:=f1
   rw [Nat.zero_add] at b1 b2 b3 b4 b5 b6
   replace x0:=hd_ x0;go_upto_region 8 with (fail)
   rw [← hW,← g1]
   replace hW:=hd_ hW;replace g1:=hd_ g1;go_wp2_with fail
   refine hC.out.mono ?_
   rintro r w2 ⟨rfl,i1⟩
   have n0:=x0.out.trans (i1.mono x0.out.size)
   have j0:=a1.out.below i1 y1
   have d1:Chg (fun k=>k=g) w w2:=m0.out.on n0
   have a0:=Z02 k0.out n0
   have i0:∀ t (h:t<(Z1b l (d.take j)).length),cellsE w2 g (t*7) (Z1b l (d.take j))[t]:=fun t h=>(t0.out t h).below n0 (t0.out t h).lt
   have f0:∀ t (h:t<d.length),j≤t→cellsE w2 g (t*7) d[t]:=fun t h h'=>(r0.out t h h').below n0 (r0.out t h h').lt
   clear c0 c1 c2 c3 c4 c5 c6 b0 b1 b2 b3 b4 b5 b6 hC i1 a1
   cases hsm:Z5m l x
   ·have a2:=j0.lt
    obtain⟨b0,b1,b2,b3,b4,b5,b6⟩:=j0
    rw [Nat.zero_add] at b1 b2 b3 b4 b5 b6
    have ho:i*7+7≤d0.size:=by rw [w0.out];omega
    have get:∀ o,o<d0.size→∃ u,w2.cell? ⟨g,o,none⟩=some u:=fun o ho=>⟨_,(Z00 a0 o).trans (Array.getElem?_eq_getElem ho)⟩
    obtain⟨v0,q0⟩:=get (i*7) (by omega)
    obtain⟨v1,q1⟩:=get (i*7+1) (by omega)
    obtain⟨v2,q2⟩:=get (i*7+2) (by omega)
    obtain⟨v3,q3⟩:=get (i*7+3) (by omega)
    obtain⟨v4,q4⟩:=get (i*7+4) (by omega)
    obtain⟨v5,q5⟩:=get (i*7+5) (by omega)
    obtain⟨v6,q6⟩:=get (i*7+6) (by omega)
    have z0:=Z03 a0 (i*7)
    have z1:=Z03 a0 (i*7+1)
    have z2:=Z03 a0 (i*7+2)
    have z3:=Z03 a0 (i*7+3)
    have z4:=Z03 a0 (i*7+4)
    have z5:=Z03 a0 (i*7+5)
    have z6:=Z03 a0 (i*7+6)
    have hlg:=Z04 a0
    obtain⟨W7,e1⟩:∃ W7,W7=((((((w2.setCell ⟨g,i*7,none⟩ (.int .i64 x.frm)).setCell ⟨g,i*7+1,none⟩ (.int .i64 x.boot)).setCell ⟨g,i*7+2,none⟩ (.int .i64 x.seq)).setCell ⟨g,i*7+3,none⟩ (.int .i64 x.ord)).setCell ⟨g,i*7+4,none⟩ (.int .i64 x.lev)).setCell ⟨g,i*7+5,none⟩ (.int .i64 x.stamp)).setCell ⟨g,i*7+6,none⟩ (.string x.data):=⟨_,rfl⟩
    have r1:=store7 a0 ho x e1
    have g0:Z1b l (d.take (j+1))=Z1b l (d.take j)++[x]:=by rw [y0.out,hsm];rfl
    have e0:Hid ((Z1b l (d.take (j+1))).length=i+1∧RowD w W7 g cap d.length 134 d (Z1b l (d.take (j+1))) (j+1)):=hd_ (by
     obtain⟨⟨c7,h1,h2⟩,h3,h4,h5⟩:=r1
     rw [g0]
     refine⟨by rw [List.length_append,hi.out];rfl,⟨c7,h1,h2.trans w0.out⟩,fun t ht=>?_,fun t h h'=>h4 _ _ (by omega) (f0 t h (by omega)),d1.more h5 fun i e=>.inl e⟩
     have n1:=hi.out
     rw [List.length_append,List.length_singleton] at ht
     rcases Nat.lt_or_ge t (Z1b l (d.take j)).length with h | h
     ·rw [List.getElem_append_left h];exact h4 _ _ (by omega) (i0 t h)
     ·rw [List.getElem_append_right h]
      obtain rfl:t=i:=by omega
      simpa using h3)
    clear r1 g0;replace a0:=hd_ a0;replace d1:=hd_ d1;replace i0:=hd_ i0;replace f0:=hd_ f0;replace hsm:=hd_ hsm;replace n0:=hd_ n0;clear get;go_upto_region 10 with (fail)
    rw [← e1]
    replace e1:=hd_ e1;clear b0 b1 b2 b3 b4 b5 b6 q0 q1 q2 q3 q4 q5 q6 z0 z1 z2 z3 z4 z5 z6;go_wp2
    go_roundw
    case rel=>exact⟨i+1,j+1,by go_num,by go_num,hlt,by omega,e0⟩
    case measure=>simp [intOf];omega
   ·replace j0:=hd_ j0
    rw [hsm] at y0
    replace hsm:=hd_ hsm
    have g0:Z1b l (d.take (j+1))=Z1b l (d.take j):=by rw [y0.out];simp
    have e0:Hid ((Z1b l (d.take (j+1))).length=i∧RowD w w2 g cap d.length 134 d (Z1b l (d.take (j+1))) (j+1)):=hd_ (by
     rw [g0]
     exact⟨hi.out,⟨d0,a0,w0.out⟩,i0,fun t h h'=>f0 t h (by omega),d1⟩)
    clear g0 a0 i0 f0 d1 n0;go_wp2
    go_roundw
    case rel=>exact⟨i,j+1,rfl,by go_num,hlt,by omega,e0⟩
    case measure=>simp [intOf];omega
  ·obtain rfl:j=d.length:=by omega
   rw [List.take_length] at hR
   obtain⟨hi,⟨d0,k0,w0⟩,t0,r0,m0⟩:=hR.out
   have get:∀ o,o<d0.size→(wr.cell? ⟨g,o,none⟩).isSome=true:=fun o ho=>by rw [Z00 k0 o,Array.getElem?_eq_getElem ho];rfl
   obtain⟨news,s1⟩:=Zaw Tryz.prog 35 134 _ [.int .i64 0, .int .i64 0, .int .i64 0, .int .i64 0, .int .i64 0, .int .i64 0, .string ByteArray.empty] Tryz.underlying35 (fun w=>Tryz.zeroValue134 w) rfl (by decide) (by decide) (w:=wr) (g:=g) (o:=i*7) (n:=d.length-i) (c:=cap-i) (by omega) (fun q hq=>get _ (by simp only [List.length_cons,List.length_nil] at hq;omega)) (fun q _=>Z03 k0 _)
   obtain⟨⟨c2,h1,h2,h3⟩,h4⟩:=Z1v news (i*7) wr d0 k0
   obtain⟨W8,l1⟩:∃ W8,W8=wr.setCells g (i*7) news:=⟨_,rfl⟩
   rw [← l1] at s1 h1 h4
   have e0:Hid (ownE W8 0 134 (.slice (some ⟨g,0,none⟩) (Z1b l d).length cap) (Z1b l d)∧Chg (fun k=>k=g) w W8):=hd_ ⟨Z6h h1 (h2.trans w0) (by omega) (by unfold maxLen;exact hM) (fun t ht=>by
    have:=t0 t ht
    unfold cellsE at this ⊢
    simp only [Z00 k0] at this
    simp only [Z00 h1]
    rw [h3 _ (by omega),h3 _ (by omega),h3 _ (by omega),h3 _ (by omega),h3 _ (by omega),h3 _ (by omega),h3 _ (by omega)]
    exact this),m0.more h4 fun i e=>.inl e⟩
   rw [hi] at e0
   have n1:=hd_ hi
   clear hi k0 t0 r0 m0 get h1 h2 h3 h4 l1;go_wp2
   go_ret
   rw [n1.out]
   exact⟨rfl,e0.out⟩
end
section
open Go.RowKit
theorem Zg3 (b:Nat) (frm boot seq:Int) (F:Nat→Prop) (d l:List Ent) (a2:Option Addr) (c2:Nat) (w:World) (h:pnO w F b frm boot seq d) (hr:rdE w (.slice a2 l.length c2) l) (hn:0<l.length→∀ k,(Value.slice a2 l.length c2).ownBlock=some k→¬ F k) :
  Calls Tryz.prog 184 #[.pointer (some ⟨b,0,none⟩), .slice a2 l.length c2] w fun r w'=>∃ n,r=.returned (.int .i64 n)∧pnO w' F b frm boot seq (Z1b l d)∧Chg F w w':=by
 have h0:=h
 obtain⟨hF,v,hb,ho,hv⟩:=h
 obtain⟨W,hW⟩:∃ W,W=w.alloc (.cells #[.slice a2 l.length c2] 35):=⟨_,rfl⟩
 have hB:Below w.heap.size w W:=hW ▸ (Below.refl _ _).alloc (Nat.le_refl _) _
 have h1:pnO W F b frm boot seq d:=h0.chg (G:=fun _=>False) (.of_below hB) (fun _ _ h=>h)
 have m0:W.heap[w.heap.size]?=some (.cells #[.slice a2 l.length c2] 35 (0,0)):=hW ▸ Z0a _ _
 obtain⟨lb,a0⟩:∃ lb,lb=w.heap.size:=⟨_,rfl⟩
 rw [← a0] at m0
 have p0:W.cell? ⟨lb,0,none⟩=some (.slice a2 l.length c2):=Z00 m0 0
 have d0:=Z02 hb hB
 have w0:=ho
 have c3:W.cell? ⟨b,3,none⟩=some v:=Z00 d0 3
 have z3:=Z03 d0 3
 have hl:=Z04 d0
 have r0:=hr.grow hB
 have y0:=ho.rd.len
 have hD:∃ v',(Calls Tryz.prog 209 #[v, .func (.func 210) #[] #[.pointer (some ⟨lb,0,none⟩)]] W fun r w'=>r=.returned v'∧ownE w' 0 134 v' (Z1b l d)∧Chg (fun k=>v.ownBlock=some k) W w')∧v'.ownBlock=v.ownBlock∧∃ ad cp,v'=.slice ad (Z1b l d).length cp:=by
  rcases ho.2 with ⟨rfl,e⟩ | ⟨g,j0,o0,rfl,_,hg,z0,hM,hs,ht⟩
  ·have e2:d=[]:=List.eq_nil_of_length_eq_zero e
   subst e2
   refine⟨.slice none 0 0,(Zfw none 0 _ W).mono ?_,rfl,none,0,rfl⟩
   rintro r w1 ⟨rfl,rfl⟩
   exact⟨rfl,World.ownsRow_nil _ _ _ _,Chg.refl _ _⟩
  ·have v0:=Z02 hg hB
   have n0:=(Z0z ho hB).rd
   obtain⟨a',s0,e1,_,_,n0⟩:=n0
   injection e1 with e1 e2 e3
   subst e1 e3
   refine⟨.slice (some ⟨g,0,none⟩) (Z1b l d).length j0,(Zcz g j0 o0 d l lb (.slice a2 l.length c2) W v0 hs z0 hM (fun t ht=>?_) p0 r0 (fun e=>?_) (fun h0 k hk e=>?_)).mono ?_,rfl,_,_,rfl⟩
   ·obtain⟨b',off,e4,hc⟩:=n0 (by omega)
    injection e4 with e4
    injection e4 with e5 e6
    subst e5 e6
    have:=hc t ht
    rw [Nat.zero_add] at this
    exact this
   ·have:=Z04 hg;omega
   ·rw [e] at hk;exact hn h0 g hk (hv g rfl)
   ·rintro r w1 ⟨rfl,h2,h3⟩
    exact⟨rfl,h2,h3.mono fun k _ e=>by rw [show k=g from e];rfl⟩
 obtain⟨v',hD,g0,a1⟩:=hD
 obtain⟨a,c,rfl⟩:=y0
 obtain⟨ad',t0,rfl⟩:=a1
 replace hD:=hd_ hD;replace hb:=hd_ hb
 have f0:=hd_ d0
 replace hB:=hd_ hB;replace h1:=hd_ h1;replace g0:=hd_ g0;replace hv:=hd_ hv;replace hr:=hd_ hr
 have hne:lb≠b:=by have:=Z04 hb.out;omega
 have x0:=hl
 clear h0 w0 m0 p0 r0 d0
 go_enter Tryz.func184,Tryz.ntmps184
 go_upto_region 1 with (fail)
 rw [← hW,← a0]
 replace hW:=hd_ hW;replace a0:=hd_ a0;go_wp2_with fail
 refine (Z7f b frm boot seq d F _ h1.out).mono ?_
 rintro r w1 ⟨rfl,rfl⟩;go_wp2_with fail
 refine hD.out.mono ?_
 rintro r w2 ⟨rfl,q0,k0⟩
 have neb:¬ (Value.slice a d.length c).ownBlock=some b:=fun e=>by
  rcases ho.2 with ⟨e0,_⟩ | ⟨g,j0,o0,e0,_,e2,_⟩
  ·rw [e0] at e;cases e
  ·rw [e0] at e
   have e3:some g=some b:=e
   injection e3 with e3
   subst e3
   rw [hb.out] at e2
   injection e2 with e2
   injection e2 with e4 e5
   cases e5
 have c0:=Z0g f0.out k0 neb
 have q3:w2.cell? ⟨b,3,none⟩=some (.slice a d.length c):=Z00 c0 3
 have z3:=Z03 c0 3
 have hl2:=Z04 c0
 obtain⟨W3,b0⟩:∃ W3,W3=w2.setCell ⟨b,3,none⟩ (.slice ad' (Z1b l d).length t0):=⟨_,rfl⟩
 have i0:pnO W3 F b frm boot seq (Z1b l d):=⟨hF,_,b0 ▸ Z0d c0,b0 ▸ q0.chg (Z06 (F:=fun k=>k=b) (Chg.refl _ _) rfl) (fun k hk e=>neb (by rw [← g0.out,hk,show k=b from e])),fun k hk=>hv.out k (by rw [← g0.out];exact hk)⟩
 have l0:Chg F w W3:=b0 ▸ Z06 (((Chg.of_below hB.out).more k0 fun i e=>.inl (hv.out i e))) hF
 replace i0:=hd_ i0;replace l0:=hd_ l0;replace c0:=hd_ c0;clear q0 k0 hD c3 hl f0;replace ho:=hd_ ho;replace neb:=hd_ neb;go_upto_region 4 with (fail)
 rw [← b0]
 replace b0:=hd_ b0;clear q3 z3;go_wp2_with fail
 refine (Z7f b frm boot seq (Z1b l d) F _ i0.out).mono ?_
 rintro r w4 ⟨rfl,rfl⟩;go_wp2
 go_ret
 exact⟨_,rfl,i0.out,l0.out⟩
end
section
open Go.RowKit
abbrev tdVal (t:Int × Ent):Value:=.agg #[.int .i64 t.1, .int .i64 t.2.frm, .int .i64 t.2.boot, .int .i64 t.2.seq, .int .i64 t.2.ord, .int .i64 t.2.lev, .int .i64 t.2.stamp, .string t.2.data]
theorem Zeg {w:World} {b o:Nat} {t:Int × Ent} (h:atG Z0k w b o t):w.cell? ⟨b,o,none⟩=some (.int .i64 t.1)∧w.cell? ⟨b,o+1,none⟩=some (.int .i64 t.2.frm)∧w.cell? ⟨b,o+2,none⟩=some (.int .i64 t.2.boot) ∧
  w.cell? ⟨b,o+3,none⟩=some (.int .i64 t.2.seq)∧w.cell? ⟨b,o+4,none⟩=some (.int .i64 t.2.ord)∧w.cell? ⟨b,o+5,none⟩=some (.int .i64 t.2.lev)∧w.cell? ⟨b,o+6,none⟩=some (.int .i64 t.2.stamp)∧w.cell? ⟨b,o+7,none⟩=some (.string t.2.data):=
 ⟨h 0 _ rfl,h 1 _ rfl,h 2 _ rfl,h 3 _ rfl,h 4 _ rfl,h 5 _ rfl,h 6 _ rfl,h 7 _ rfl⟩
theorem Zg4 (l:Td) (e:Ent) (k:Nat) (h:k<l.length):Z1r (l.take (k+1)) e=(Z1r (l.take k) e||Z35 l[k].2 e):=by
 unfold Z1r;rw [List.take_succ_eq_append_getElem h,List.any_append];simp
theorem Zg5 (l:Td) (e:Ent) (k:Nat) (h:Z1r (l.take k) e=true):Z1r l e=true:=by
 unfold Z1r at h ⊢
 rw [← List.take_append_drop k l,List.any_append,h,Bool.true_or]
theorem Zg6 (t:Int × Ent) (e:Ent) (b:Nat) (w:World) (h:cellsE w b 0 e) :
  Calls Tryz.prog 230 #[tdVal t, .pointer (some ⟨b,0,none⟩)] w fun r w'=>r=.returned (.bool (Z35 t.2 e))∧Below w.heap.size w w':=by
 have hlt:=h.lt
 obtain⟨c0,c1,c2,c3,c4,c5,c6⟩:=h
 rw [Nat.zero_add] at c1 c2 c3 c4 c5 c6
 obtain⟨a0,⟨a1,a2,a3,a4,a5,a6,a7⟩⟩:=t
 go_enter Tryz.func230,Tryz.ntmps230
 go_wp2_with fail
 refine (Z51 ⟨a1,a2,a3,a4,a5,a6,a7⟩ e _).mono ?_
 rintro r w1 ⟨rfl,hb⟩;go_wp2
 go_ret
 exact⟨rfl,((Below.refl _ _).alloc (Nat.le_refl _) _).trans (hb.mono (by simp))⟩
theorem Zd0 (v:Value) (l:Td) (e:Ent) (b:Nat) (w:World) (hr:rdS 8 (atG Z0k) w v l) (hb:cellsE w b 0 e) :
  Calls Tryz.prog 233 #[v, .func (.func 230) #[] #[.pointer (some ⟨b,0,none⟩)]] w fun r w'=>(∃ n:Int,r=.returned (.int .i64 n)∧decide (0≤n)=Z1r l e)∧Below w.heap.size w w':=by
 obtain⟨a,cap,rfl,hm,hM,ha⟩:=hr
 unfold maxLen at hM
 replace ha:=hd_ ha;replace hb:=hd_ hb
 go_enter Tryz.func233,Tryz.ntmps233
 go_wp2
 go_loopw [8] (fun i wr=>∃ k:Nat,k≤l.length∧i=.int .i64 k∧Z1r (l.take k) e=false∧Below w.heap.size w wr) (fun i _=>l.length-(intOf i).toNat)
 case atStart=>exact⟨0,Nat.zero_le _,rfl,rfl,Below.refl _ _⟩
 case round=>
  obtain⟨k,hk,rfl,d0,a0⟩:=hrel
  replace d0:=hd_ d0
  by_cases hlt:k<l.length
  ·obtain⟨bl,off,rfl,hc⟩:=ha.out (by omega)
   have g0:=Zeg ((hc k hlt).grow Z0k w wr bl _ _ a0)
   have hs:=hd_ (Zg4 l e k hlt)
   clear hc
   generalize l[k]=x at g0 hs
   obtain⟨c0,c1,c2,c3,c4,c5,c6,c7⟩:=g0
   have f0:cellsE wr b 0 e:=hb.out.below a0 hb.out.lt
   go_wp2_with fail
   refine (Zg6 x e b _ f0).mono ?_
   rintro r w1 ⟨rfl,e0⟩
   have b0:=a0.trans (e0.mono a0.size)
   clear e0 a0 c0 c1 c2 c3 c4 c5 c6 c7 f0
   cases hsm:Z35 x.2 e
   ·go_wp2
    go_roundw
    case rel=>exact⟨k+1,by omega,by go_num,by rw [hs.out,d0.out,hsm];rfl,b0⟩
    case measure=>simp [intOf];omega
   ·go_wp2
    go_ret
    exact⟨⟨(k:Int),rfl,by rw [Zg5 l e (k+1) (by rw [hs.out,hsm,Bool.or_true])];simp⟩,b0⟩
  ·obtain rfl:k=l.length:=by omega
   rw [List.take_length] at d0
   go_wp2
   go_ret
   exact⟨⟨-1,rfl,by rw [d0.out];rfl⟩,a0⟩
theorem Z82 (v:Value) (l:Td) (e:Ent) (b:Nat) (w:World) (hr:rdS 8 (atG Z0k) w v l) (hb:cellsE w b 0 e) :
  Calls Tryz.prog 229 #[v, .func (.func 230) #[] #[.pointer (some ⟨b,0,none⟩)]] w fun r w'=>r=.returned (.bool (Z1r l e))∧Below w.heap.size w w':=by
 go_enter Tryz.func229,Tryz.ntmps229
 go_wp2_with fail
 refine (Zd0 v l e b w hr hb).mono ?_
 rintro r w1 ⟨⟨n,rfl,hn⟩,a0⟩;replace hn:=hd_ hn;go_wp2
 go_ret
 exact⟨Z0b hn.out,a0⟩
def rdQ (w:World) (b:Nat) (td:Td):Prop:=∃ v,w.cell? ⟨b,0,none⟩=some v∧rdS 8 (atG Z0k) w v td
theorem rdQ.grow {w w':World} {b:Nat} {td:Td} (h:rdQ w b td) (hb:Below w.heap.size w w'):rdQ w' b td:=by
 obtain⟨v,h1,h2⟩:=h
 exact⟨v,by rw [hb.cell (Z0f h1)];exact h1,rdS.grow (fun w w' b o x h hb=>h.grow Z0k w w' b o x hb) h2 hb⟩
theorem rqO.rd {w:World} {F:Nat→Prop} {b:Nat} {td:Td} (h:rqO w F b td):rdQ w b td:=by
 obtain⟨_,v,h1,h2,_⟩:=h
 exact⟨v,Z00 h1 0,h2.rd Z0k⟩
theorem Z5b (b:Nat) (l:Td) (e:Ent) (w:World) (hr:rdQ w b l) :
  Calls Tryz.prog 214 #[.pointer (some ⟨b,0,none⟩),e.val] w fun r w'=>r=.returned (.bool (Z1r l e))∧Below w.heap.size w w':=by
 have hg:=hr.grow ((Below.refl _ w).alloc (Nat.le_refl _) (.cells #[.int .i64 e.frm, .int .i64 e.boot, .int .i64 e.seq, .int .i64 e.ord, .int .i64 e.lev, .int .i64 e.stamp, .string e.data] 134))
 obtain⟨v,hv,hr⟩:=hg
 have hx:=hd_ hr
 have hlt:=Z0f hv
 clear hr
 have a0:=hd_ (Z2p w e 134)
 simp only [Ent.val]
 go_enter Tryz.func214,Tryz.ntmps214
 go_wp2_with fail
 refine (Z82 v l e w.heap.size _ hx.out a0.out).mono ?_
 rintro r w1 ⟨rfl,hb⟩;go_wp2
 go_ret
 exact⟨rfl,Z1z _ hb⟩
end
section
open Go.RowKit
theorem Zj0 (a o t m:Bool) (e:Ent) (pos com now:Int) (w:World) (hs:0≤e.stamp∧e.stamp≤1099511627776) (hn:0≤now∧now≤1099511627776) :
  Calls Tryz.prog 215 #[.agg #[.bool a, .bool o, .bool t, .bool m],e.val, .int .i64 pos, .int .i64 com, .int .i64 now] w fun r w'=>r=.returned (.bool (Z6m a t m e pos com now))∧Below w.heap.size w w':=by
 obtain⟨f,b,q,od,lv,st,dt⟩:=e
 obtain⟨d0,e0⟩:=hs
 obtain⟨hn0,hn1⟩:=hn
 dsimp only at d0 e0
 obtain⟨R,hR⟩:∃ R,Z6m a t m ⟨f,b,q,od,lv,st,dt⟩ pos com now=R:=⟨_,rfl⟩
 rw [hR]
 unfold Z6m at hR
 dsimp only at hR
 obtain⟨W,hW⟩:∃ W,W=(w.alloc (.cells #[.bool a, .bool o, .bool t, .bool m] 255)).alloc (.cells #[.int .i64 f, .int .i64 b, .int .i64 q, .int .i64 od, .int .i64 lv, .int .i64 st, .string dt] 134):=⟨_,rfl⟩
 have hB:Below w.heap.size w W:=hW ▸ ((Below.refl _ _).alloc (Nat.le_refl _) _).alloc (by simp) _
 obtain⟨sb,a0⟩:∃ sb,sb=w.heap.size:=⟨_,rfl⟩
 obtain⟨eb,b0⟩:∃ eb,eb=sb+1:=⟨_,rfl⟩
 have hx:W.heap[sb]?=some (.cells #[.bool a, .bool o, .bool t, .bool m] 255 (0,0)):=hW ▸ a0 ▸ Z4l _ (Z0a _ _)
 have hy:W.heap[eb]?=some (.cells #[.int .i64 f, .int .i64 b, .int .i64 q, .int .i64 od, .int .i64 lv, .int .i64 st, .string dt] 134 (0,0)):=by
  have:=Z0a (w.alloc (.cells #[.bool a, .bool o, .bool t, .bool m] 255)) (.cells #[.int .i64 f, .int .i64 b, .int .i64 q, .int .i64 od, .int .i64 lv, .int .i64 st, .string dt] 134)
  rw [← hW] at this
  simpa [b0,a0] using this
 have x0:=Z00 hx 0
 have x2:=Z00 hx 2
 have x3:=Z00 hx 3
 have y3:=Z00 hy 3
 have y4:=Z00 hy 4
 have y5:=Z00 hy 5
 simp only [List.getElem?_toArray,List.getElem?_cons_zero,List.getElem?_cons_succ] at x0 x2 x3 y3 y4 y5
 have lx:=Z04 hx
 have ly:=Z04 hy
 replace hx:=hd_ hx;replace hy:=hd_ hy;replace hB:=hd_ hB
 have hd:decide (3≤now-st)=decide (st+3≤now):=by
  rw [decide_eq_decide];omega
 rw [hd] at hR
 clear hd
 obtain⟨b1,g1⟩:∃ c,(lv != 0)=c:=⟨_,rfl⟩
 obtain⟨b2,g2⟩:∃ c,decide (com<pos)=c:=⟨_,rfl⟩
 obtain⟨b3,g3⟩:∃ c,(lv==2)=c:=⟨_,rfl⟩
 obtain⟨b4,g4⟩:∃ c,(od==1)=c:=⟨_,rfl⟩
 obtain⟨b5,g5⟩:∃ c,(od==2)=c:=⟨_,rfl⟩
 obtain⟨b6,g6⟩:∃ c,decide (st<now)=c:=⟨_,rfl⟩
 rw [g1,g2,g3,g4,g5,g6] at hR
 go_enter Tryz.func215,Tryz.ntmps215
 go_upto_region 1 with (fail)
 rw [← hW,← a0,← b0]
 replace hW:=hd_ hW;replace a0:=hd_ a0;replace b0:=hd_ b0
 go_cut [11] (fun z wx=>z=.bool (b1&&b2)∧W=wx)
 case first=>
  cases b1
  ·go_wp2_with fail
   go_meet
   exact⟨rfl,rfl⟩
  ·go_wp2_with fail
   go_meet
   exact⟨by simp,rfl⟩
 case rest=>
  obtain⟨rfl,c0⟩:=hcut
  rename World=>wx
  subst c0
  obtain⟨c1,k1⟩:∃ c,(b1&&b2)=c:=⟨_,rfl⟩
  rw [k1] at hR ⊢
  clear g1 g2;replace k1:=hd_ k1
  cases c1
  case true=>
   have e:R=false:=by rw [← hR];rfl
   replace hR:=hd_ hR;go_wp2
   go_ret
   first | exact⟨Z0b e.symm,hB.out⟩ | exact⟨rfl,hB.out⟩
  go_upto_region 3 with (fail)
  go_cut [20] (fun z wx=>z=.bool (b3 && !a)∧W=wx)
  case first=>
   cases b3
   ·go_wp2_with fail
    go_meet
    exact⟨rfl,rfl⟩
   ·go_wp2_with fail
    go_meet
    exact⟨by simp,rfl⟩
  case rest=>
   obtain⟨rfl,c0⟩:=hcut
   rename World=>wx
   subst c0
   obtain⟨c2,k2⟩:∃ c,(b3 && !a)=c:=⟨_,rfl⟩
   rw [k2] at hR ⊢
   clear g3;replace k2:=hd_ k2
   cases c2
   case true=>
    have e:R=false:=by rw [← hR];rfl
    replace hR:=hd_ hR;go_wp2
    go_ret
    first | exact⟨Z0b e.symm,hB.out⟩ | exact⟨rfl,hB.out⟩
   cases b4
   case true=>
    have e:R=t:=by rw [← hR];rfl
    replace hR:=hd_ hR;go_wp2
    go_ret
    first | exact⟨Z0b e.symm,hB.out⟩ | exact⟨rfl,hB.out⟩
   cases b5
   case false=>
    have e:R=true:=by rw [← hR];rfl
    replace hR:=hd_ hR;go_wp2
    go_ret
    first | exact⟨Z0b e.symm,hB.out⟩ | exact⟨rfl,hB.out⟩
   have e:R=(m&&b6&&decide (st+3≤now)):=by rw [← hR];rfl
   replace hR:=hd_ hR
   cases m
   case false=>
    go_wp2
    go_ret
    first | exact⟨Z0b e.symm,hB.out⟩ | exact⟨rfl,hB.out⟩
   cases b6
   case false=>
    go_wp2
    go_ret
    first | exact⟨Z0b e.symm,hB.out⟩ | exact⟨rfl,hB.out⟩
   have hlt:=of_decide_eq_true g6
   have hwr:IntKind.u64.wrap (now-st)=now-st:=by
    unfold IntKind.wrap
    simp only [IntKind.signed,IntKind.bits]
    show (now-st) % 18446744073709551616=now-st
    omega
   replace g6:=hd_ g6;go_wp2
   go_ret
   refine⟨Z0b ?_,hB.out⟩
   rw [decide_eq_decide]
   omega
end
section
open Go.RowKit
theorem Z7i {P:Program} (w:World) {ops:Array Oper} {rest:List Oper} {o:Oper} {a:Act} {Q:Exit→Act→World→Prop} (hg:o.guard=none) (s x:Operand) (t:TypeId)
  (ho:o.op=.call { callee:=.builtin .append,args:=#[s,x],argTypes:=#[t,t] })
  (base:Nat) (e:TypeId) (i:TypeInfo) (z:Value) (size bytes:Nat) (ht:P.underlying t=some (.slice e)) (hi:P.info? e=some i) (hz:i.zero=some z)
  (hsize:i.size=size) (hby:i.bytes=bytes) (hzs:z.cells.size=size) (hsz:0<size)
  (v:Value) (n:Nat) (xs:List Value) (hs:a.eval s=v) (hown:w.ownsRow base e size v n xs)
  (v2:Value) (m:Nat) (news:List Value) (hx:a.eval x=v2) (hsrc:srcRow w size v2 m news) (h1:∀ u ∈ news,u.oneCell'=true)
  (h63:n+m≤maxLen) (hbytes:(n+m)*bytes≤140737488355328) (hbase:base≤w.heap.size)
  (h:∀ v' w',w'.ownsRow base e size v' (n+m) (xs++news)→w.grownBy w' v.ownBlock→(v'.ownBlock=v.ownBlock∨v'.ownBlock=some w.heap.size)→wpList P ops Q rest (a.put o.dst v') w'):wpList P ops Q (o :: rest) a w:=
 wpList_plain hg fun K hK'=>Z6e w s x t ho base e i z size bytes ht hi hz hsize hby hzs hsz v n xs hs hown v2 m news hx hsrc h1 h63 hbytes hbase fun v' w' k1 k2 k3=>hK' _ _ (h v' w' k1 k2 k3)
theorem Zj1:(Tryz.prog.info? 136).map (fun i=>(i.zero,i.size,i.bytes))=some (some (.agg #[.int .i64 0, .int .i64 0, .int .i64 0, .int .i64 0, .int .i64 0, .int .i64 0, .int .i64 0, .string ByteArray.empty]),8,72):=by kernel_rfl
theorem mayE_ord {e:Ent} (h:Z2l e=true):e.ord=0∨e.ord=1∨e.ord=2:=by
 unfold Z2l at h
 simp only [Bool.and_eq_true,decide_eq_true_eq] at h
 omega
theorem Zg7 {e:Ent} (h:Z2l e=true):0≤e.stamp∧e.stamp≤1099511627776:=by
 unfold Z2l at h
 simp only [Bool.and_eq_true,decide_eq_true_eq] at h
 omega
theorem Z7j (com now:Int) (e:Ent) (l:List Ent) (i:Int) (a t m:Bool) (td:Td):Z78 com now (e :: l) i a t m td =
  let td':=if !Z1r td e&&Z6m a t m e i com now then td++[(i,e)] else td
  let h:=Z1r td' e
  Z78 com now l (i+1) (a&&h) (t&&(h||e.ord != 1)) (m&&(h||e.ord != 2)) td':=rfl
structure GoI (w wr:World) (b:Nat) (F:Nat→Prop) (ov:Value) (sb:Nat) (a o t m:Bool) (td0 td outs:Td):Prop where
 q:∃ tv,wr.heap[b]?=some (.cells #[tv] 194 (0,0))∧ownG Z0k wr 0 136 tv td∧(∀ k,tv.ownBlock=some k→F k∨w.heap.size≤k)∧∀ k,tv.ownBlock=some k→ov.ownBlock≠some k
 out:ownG Z0k wr w.heap.size 136 ov outs
 td:td=td0++outs
 seen:wr.heap[sb]?=some (.cells #[.bool a, .bool o, .bool t, .bool m] 255 (0,0))
 chg:Chg F w wr
theorem GoI.grow {w wr w':World} {b:Nat} {F:Nat→Prop} {ov:Value} {sb:Nat} {a o t m:Bool} {td0 td outs:Td} (h:GoI w wr b F ov sb a o t m td0 td outs) (hb:Below wr.heap.size wr w'):GoI w w' b F ov sb a o t m td0 td outs:=by
 obtain⟨⟨tv,h1,h2,h3,h4⟩,h5,h6,h7,h8⟩:=h
 exact⟨⟨tv,Z02 h1 hb,h2.grow Z0k hb,h3,h4⟩,h5.grow Z0k hb,h6,Z02 h7 hb,h8.on hb⟩
theorem GoI.rd {w wr:World} {b:Nat} {F:Nat→Prop} {ov:Value} {sb:Nat} {a o t m:Bool} {td0 td outs:Td} (h:GoI w wr b F ov sb a o t m td0 td outs):rdQ wr b td:=by
 obtain⟨⟨tv,h1,h2,h3,h4⟩,h5,h6,h7,h8⟩:=h
 exact⟨tv,Z00 h1 0,h2.rd Z0k⟩
theorem GoI.set {w wr:World} {b:Nat} {F:Nat→Prop} {ov:Value} {sb:Nat} {a o t m:Bool} {td0 td outs:Td} (h:GoI w wr b F ov sb a o t m td0 td outs) (hb:b<sb) (hs:w.heap.size≤sb) (i:Nat) (v:Value) (a' o' t' m':Bool)
  (e:(#[.bool a, .bool o, .bool t, .bool m]:Array Value).setIfInBounds i v=#[.bool a', .bool o', .bool t', .bool m']):GoI w (wr.setCell ⟨sb,i,none⟩ v) b F ov sb a' o' t' m' td0 td outs:=by
 obtain⟨⟨tv,h1,h2,h3,h4⟩,h5,h6,h7,h8⟩:=h
 have far:∀ (u:Value) (n:Nat) (xs:List Value) (a0:Nat),wr.ownsRow a0 136 8 u n xs→∀ k,u.ownBlock=some k→k≠sb:=by
  intro u n xs a0 hu k hk e
  rcases hu.2 with ⟨e0,_⟩ | ⟨g,cap,cur,e0,_,e2,_⟩
  ·rw [e0] at hk;cases hk
  ·rw [e0] at hk
   have e3:some g=some k:=hk
   injection e3 with e3
   subst e3;subst e
   rw [h7] at e2
   injection e2 with e2
   injection e2 with e4 e5
   cases e5
 have hc:Chg (fun k=>k=sb) wr (wr.setCell ⟨sb,i,none⟩ v):=Z06 (Chg.refl _ _) rfl
 exact⟨⟨tv,Z0g h1 hc (by omega),h2.chg Z0k hc (far _ _ _ _ h2),h3,h4⟩,h5.chg Z0k hc (far _ _ _ _ h5),h6,by rw [← e];exact Z0d h7,h8.more hc fun k e=>.inr (by omega)⟩
theorem Z9h (com now:Int):∀ (l:List Ent) (i:Int) (a t m:Bool) (td:Td),(Z78 com now l i a t m td).length≤td.length+l.length
 | [],i,a,t,m,td=>Nat.le_refl _
 | e :: l,i,a,t,m,td=>by
   rw [Z7j]
   dsimp only
   have:=Z9h com now l (i+1) (a&&Z1r (if !Z1r td e&&Z6m a t m e i com now then td++[(i,e)] else td) e) (t&&(Z1r (if !Z1r td e&&Z6m a t m e i com now then td++[(i,e)] else td) e||e.ord != 1)) (m&&(Z1r (if !Z1r td e&&Z6m a t m e i com now then td++[(i,e)] else td) e||e.ord != 2)) (if !Z1r td e&&Z6m a t m e i com now then td++[(i,e)] else td)
   have h2:(if !Z1r td e&&Z6m a t m e i com now then td++[(i,e)] else td).length≤td.length+1:=by split<;>simp
   simp only [List.length_cons]
   omega
theorem rdGo_any (b:Nat) (td0:Td) (F:Nat→Prop) (L:List Ent) (ad:Option Addr) (cp:Nat) (com now:Int) (w:World) (h:rqO w F b td0) (hr:rdE w (.slice ad L.length cp) L) (hn:0<L.length→∀ k,(Value.slice ad L.length cp).ownBlock=some k→¬ F k)
  (hL:∀ e ∈ L,Z2l e=true) (hlen:L.length≤60) (htd:td0.length≤1000000000) (hnow:0≤now∧now≤1099511627776) :
  Calls Tryz.prog 185 #[.pointer (some ⟨b,0,none⟩), .slice ad L.length cp, .int .i64 com, .int .i64 now] w fun r w'=>∃ v outs,r=.returned v∧Zid td0 L com now=td0++outs∧(∀ x ∈ outs,x.2 ∈ L)∧ownG Z0k w' w.heap.size 136 v outs ∧
   (∃ F',rqO w' F' b (td0++outs)∧(∀ k,F' k→F k∨w.heap.size≤k∧k<w'.heap.size)∧∀ k,v.ownBlock=some k→¬ F' k)∧Chg F w w':=by
 obtain⟨i0,hi,f6,g6,i6⟩:=info_parts Zj1
 replace hi:=hd_ hi
 have hF:=h.1
 obtain⟨cc,v2⟩:∃ cc,cc=min (max com 0) (L.length:Int):=⟨_,rfl⟩
 have o5:Zid td0 L com now=Z78 cc now L 1 true true true td0:=by unfold Zid;rw [List.take_of_length_le hlen,v2]
 rw [o5]
 clear o5
 have hbl:b<w.heap.size:=by obtain⟨_,v,hb,_⟩:=h;exact Z04 hb
 obtain⟨W,hW⟩:∃ W,W=w.alloc (.cells #[.bool true, .bool true, .bool true, .bool true] 255):=⟨_,rfl⟩
 have j3:Below w.heap.size w W:=hW ▸ (Below.refl _ _).alloc (Nat.le_refl _) _
 obtain⟨sb,w1⟩:∃ sb,sb=w.heap.size:=⟨_,rfl⟩
 have m6:Hid (GoI w W b F (.slice none 0 0) sb true true true true td0 td0 []):=hd_ (by
  obtain⟨_,v,hb,ho,hv⟩:=h
  exact⟨⟨v,Z02 hb j3,(ho.grow Z0k j3),fun k hk=>.inl (hv k hk),fun k hk e=>(by cases e)⟩,Z12 _ _ _ _,(List.append_nil _).symm,hW ▸ w1 ▸ Z0a _ _, .of_below j3⟩)
 have c7:ad=ad:=rfl
 obtain⟨hrl,x6⟩:L.length≤cp∧cp≤maxLen:=by obtain⟨_,_,e,h1,h2,_⟩:=hr;injection e with e1 e2 e3;subst e3;exact⟨h1,h2⟩
 unfold maxLen at x6
 replace hr:=hd_ hr;replace hn:=hd_ hn;replace h:=hd_ h;replace hL:=hd_ hL;clear j3 c7
 go_enter Tryz.func185,Tryz.ntmps185
 go_upto_region 5 with (fail)
 rw [← hW,← w1]
 have r5:(min (L.length:Int) 60).toNat=L.length:=by omega
 rw [r5]
 clear r5;replace hW:=hd_ hW;replace w1:=hd_ w1;replace v2:=hd_ v2;go_wp2
 go_loopw [25,10,11,12,13] (fun i ov _ _ _ wr=>∃ (k:Nat) (td outs:Td) (a o t m:Bool),k≤L.length∧i=.int .i64 k ∧
   Hid (GoI w wr b F ov sb a o t m td0 td outs∧Z78 cc now (L.drop k) (k+1) a t m td=Z78 cc now L 1 true true true td0∧outs.length≤k∧∀ x ∈ outs,x.2 ∈ L)) (fun i _ _ _ _ _=>L.length-(intOf i).toNat)
 case atStart=>exact⟨0,td0,[],true,true,true,true,Nat.zero_le _,rfl,hd_ ⟨m6.out,rfl,Nat.le_refl _,fun x hx=>(by cases hx)⟩⟩
 case round=>
  obtain⟨k,td,outs,a,o,t,m,hk,rfl,hJ⟩:=hrel
  by_cases hlt:k<L.length
  ·obtain⟨hI,hg,s6,g1⟩:=hJ.out
   replace g1:=hd_ g1
   have t3:=Ziz hr.out hI.chg hn.out
   obtain⟨_,_,ee,_,_,t3⟩:=t3
   injection ee with e1 e2 e3
   subst e1 e3
   obtain⟨lb,off,rfl,hc⟩:=t3 (by omega)
   have l5:=hc k hlt
   rw [List.drop_eq_getElem_cons hlt,Z7j] at hg
   have y2:=hL.out _ (List.getElem_mem hlt)
   obtain⟨x,hx⟩:∃ x,x=L[k]:=⟨_,rfl⟩
   rw [← hx] at l5 hg y2
   obtain⟨c0,c1,c2,c3,c4,c5,c6⟩:=l5
   obtain⟨W1,y1⟩:∃ W,W=wr.alloc (.cells #[.int .i64 x.frm, .int .i64 x.boot, .int .i64 x.seq, .int .i64 x.ord, .int .i64 x.lev, .int .i64 x.stamp, .string x.data] 134):=⟨_,rfl⟩
   have x3:Below wr.heap.size wr W1:=y1 ▸ (Below.refl _ _).alloc (Nat.le_refl _) _
   have n3:cellsE W1 wr.heap.size 0 x:=y1 ▸ Z2p wr x 134
   have m3:W1.heap[wr.heap.size]?=some (.cells #[.int .i64 x.frm, .int .i64 x.boot, .int .i64 x.seq, .int .i64 x.ord, .int .i64 x.lev, .int .i64 x.stamp, .string x.data] 134 (0,0)):=y1 ▸ Z0a _ _
   obtain⟨nb,q3⟩:∃ nb,nb=wr.heap.size:=⟨_,rfl⟩
   rw [← q3] at n3 m3
   replace m3:=hd_ m3
   have k5:=hd_ (hI.grow x3)
   replace hx:=hd_ hx;replace hg:=hd_ hg;replace hI:=hd_ hI;replace x3:=hd_ x3;replace y2:=hd_ y2;clear hc t3
   have j6:=n3.lt
   have g0:=hd_ n3
   obtain⟨b0,b1,b2,b3,b4,b5,b6⟩:=n3
   rw [Nat.zero_add] at b1 b2 b3 b4 b5 b6
   go_upto_region 9 with (fail)
   rw [← y1,← q3]
   replace y1:=hd_ y1;replace q3:=hd_ q3;clear c0 c1 c2 c3 c4 c5 c6;go_wp2_with fail
   refine (Z5b b td x W1 k5.out.rd).mono ?_
   rintro r w2 ⟨rfl,l3⟩
   have v0:=k5.out.grow l3
   have r1:=g0.out.below l3 j6
   have f4:=hd_ (Z02 m3.out l3)
   have x1:=r1.lt
   clear b0 b1 b2 b3 b4 b5 b6 l3 g0 j6
   have g0:=hd_ r1
   obtain⟨b0,b1,b2,b3,b4,b5,b6⟩:=r1
   rw [Nat.zero_add] at b1 b2 b3 b4 b5 b6
   have s0:=Z00 v0.seen 0
   have s1:=Z00 v0.seen 1
   have s2:=Z00 v0.seen 2
   have s3:=Z00 v0.seen 3
   simp only [List.getElem?_toArray,List.getElem?_cons_zero,List.getElem?_cons_succ] at s0 s1 s2 s3
   have ls:=Z04 v0.seen
   have k2:=hd_ (Z5b b td x w2 v0.rd)
   replace v0:=hd_ v0
   cases hh:Z1r td x
   case true=>
    rw [hh] at k2
    have f1:Z78 cc now (L.drop (k+1)) ((k+1:Nat)+1) a t m td=Z78 cc now L 1 true true true td0:=by
     have:=hg.out
     rw [hh] at this
     simp only [Bool.not_true,Bool.false_and,Bool.false_eq_true,if_false,hh,Bool.true_or,Bool.and_true] at this
     rw [← this];push_cast;rfl
    replace f1:=hd_ f1;replace hh:=hd_ hh;go_wp2_with fail
    refine k2.out.mono ?_
    rintro r w3 ⟨rfl,o1⟩
    have l1:=hd_ (v0.out.grow o1)
    clear o1 k2 b0 b1 b2 b3 b4 b5 b6 s0 s1 s2 s3 ls x1;go_wp2
    go_roundw
    case rel=>exact⟨k+1,td,outs,a,o,t,m,hlt,by go_num,hd_ ⟨l1.out,f1.out,by omega,g1.out⟩⟩
    case measure=>simp [intOf];omega
   have hM:=hd_ (Zj0 a o t m x (k+1) (min (max com 0) (L.length:Int)) now w2 (Zg7 y2.out) hnow)
   rw [← v2.out] at hM
   obtain⟨my,i1⟩:∃ my,Z6m a t m x (k+1) cc now=my:=⟨_,rfl⟩
   rw [i1] at hM
   have f1:=hg.out
   rw [hh,i1] at f1
   rw [hh] at k2
   replace hh:=hd_ hh;replace i1:=hd_ i1;replace f1:=hd_ f1
   rw [v2.out] at hM
   go_wp2_with fail
   refine hM.out.mono ?_
   rintro r w3 ⟨rfl,o1⟩
   have l1:=v0.out.grow o1
   have t1:=g0.out.below o1 x1
   have n0:=hd_ (Z02 f4.out o1)
   have i3:=t1.lt
   clear b0 b1 b2 b3 b4 b5 b6 o1 g0 x1 s0 s1 s2 s3 ls hM k2
   have g0:=hd_ t1
   obtain⟨b0,b1,b2,b3,b4,b5,b6⟩:=t1
   rw [Nat.zero_add] at b1 b2 b3 b4 b5 b6
   cases my
   case false=>
    have x0:Z78 cc now (L.drop (k+1)) ((k+1:Nat)+1) false (t&&(x.ord != 1)) (m&&(x.ord != 2)) td=Z78 cc now L 1 true true true td0:=by
     have:=f1.out
     simp only [Bool.not_false,Bool.and_false,Bool.false_eq_true,if_false,hh.out,Bool.false_or] at this
     rw [← this];push_cast;rfl
    replace x0:=hd_ x0
    have l2:=Z5b b td x w3 l1.rd
    rw [hh.out] at l2
    replace l2:=hd_ l2;replace l1:=hd_ l1;go_wp2_with fail
    refine l2.out.mono ?_
    rintro r w4 ⟨rfl,d4⟩
    have a0:=l1.out.grow d4
    have t2:=g0.out.below d4 i3
    have d7:=t2.lt
    clear b0 b1 b2 b3 b4 b5 b6 d4 g0 i3 l2
    obtain⟨b0,b1,b2,b3,b4,b5,b6⟩:=t2
    rw [Nat.zero_add] at b1 b2 b3 b4 b5 b6
    clear b0 b1 b2 b4 b5 b6
    have s0:=Z00 a0.seen 0
    have s1:=Z00 a0.seen 1
    have s2:=Z00 a0.seen 2
    have s3:=Z00 a0.seen 3
    simp only [List.getElem?_toArray,List.getElem?_cons_zero,List.getElem?_cons_succ] at s0 s1 s2 s3
    have ls:=Z04 a0.seen
    have z0:=Z03 a0.seen 0
    have z1:=Z03 a0.seen 1
    have z2:=Z03 a0.seen 2
    have z3:=Z03 a0.seen 3
    have q1:b<sb:=by have:=w1.out;omega
    have g2:w.heap.size≤sb:=by have:=w1.out;omega
    obtain⟨od,o4⟩:∃ od,x.ord=od:=⟨_,rfl⟩
    have z5:=mayE_ord y2.out
    rw [o4] at b3 x0 z5
    replace o4:=hd_ o4
    rcases z5 with rfl | rfl | rfl
    ·have m0:=(a0.set q1 g2 0 (.bool false) false o t m rfl).set q1 g2 1 (.bool false) false false t m rfl
     replace m0:=hd_ m0
     have o0:Z78 cc now (L.drop (k+1)) ((k+1:Nat)+1) false t m td=Z78 cc now L 1 true true true td0:=by simpa using x0.out
     replace o0:=hd_ o0;replace a0:=hd_ a0;go_wp2
     go_roundw
     case rel=>exact⟨k+1,td,outs,false,false,t,m,hlt,by go_num,hd_ ⟨m0.out,o0.out,by omega,g1.out⟩⟩
     case measure=>simp [intOf];omega
    ·have m0:=(a0.set q1 g2 0 (.bool false) false o t m rfl).set q1 g2 2 (.bool false) false o false m rfl
     replace m0:=hd_ m0
     have o0:Z78 cc now (L.drop (k+1)) ((k+1:Nat)+1) false false m td=Z78 cc now L 1 true true true td0:=by simpa using x0.out
     replace o0:=hd_ o0;replace a0:=hd_ a0;go_wp2
     go_roundw
     case rel=>exact⟨k+1,td,outs,false,o,false,m,hlt,by go_num,hd_ ⟨m0.out,o0.out,by omega,g1.out⟩⟩
     case measure=>simp [intOf];omega
    ·have m0:=(a0.set q1 g2 0 (.bool false) false o t m rfl).set q1 g2 3 (.bool false) false o t false rfl
     replace m0:=hd_ m0
     have o0:Z78 cc now (L.drop (k+1)) ((k+1:Nat)+1) false t false td=Z78 cc now L 1 true true true td0:=by simpa using x0.out
     replace o0:=hd_ o0;replace a0:=hd_ a0;go_wp2
     go_roundw
     case rel=>exact⟨k+1,td,outs,false,o,t,false,hlt,by go_num,hd_ ⟨m0.out,o0.out,by omega,g1.out⟩⟩
     case measure=>simp [intOf];omega
   case true=>
    have x0:Z78 cc now (L.drop (k+1)) ((k+1:Nat)+1) a t m (td++[((k:Int)+1,x)])=Z78 cc now L 1 true true true td0:=by
     have:=f1.out
     have hs:Z1r (td++[((k:Int)+1,x)]) x=true:=by unfold Z1r;simp [Z35]
     simp only [Bool.not_false,Bool.and_self,if_true,hs,Bool.true_or,Bool.and_true] at this
     rw [← this];push_cast;rfl
    replace x0:=hd_ x0
    obtain⟨W4,n2⟩:∃ W,W=w3.alloc (.cells #[.int .i64 ((k:Int)+1), .int .i64 x.frm, .int .i64 x.boot, .int .i64 x.seq, .int .i64 x.ord, .int .i64 x.lev, .int .i64 x.stamp, .string x.data] 136):=⟨_,rfl⟩
    have t0:Below w3.heap.size w3 W4:=n2 ▸ (Below.refl _ _).alloc (Nat.le_refl _) _
    have a0:=l1.grow t0
    have v3:W4.heap[w3.heap.size]?=some (.cells #[.int .i64 ((k:Int)+1), .int .i64 x.frm, .int .i64 x.boot, .int .i64 x.seq, .int .i64 x.ord, .int .i64 x.lev, .int .i64 x.stamp, .string x.data] 136 (0,0)):=n2 ▸ Z0a _ _
    obtain⟨tb,d3⟩:∃ tb,tb=w3.heap.size:=⟨_,rfl⟩
    rw [← d3] at v3
    obtain⟨⟨tv,h1,h2,h3,h4⟩,h5,h6,h7,h8⟩:=l1
    have f3:∀ (k:Nat) (cs:Array Value) (T:TypeId),w3.heap[k]?=some (.cells cs T (0,0))→T≠136→¬ tv.ownBlock=some k:=fun k cs T e0 hne e=>by
     rcases h2.2 with ⟨e1,_⟩ | ⟨g,x4,z4,e1,_,e2,_⟩
     ·rw [e1] at e;cases e
     ·rw [e1] at e
      have e3:some g=some k:=e
      injection e3 with e3
      subst e3
      rw [e0] at e2
      injection e2 with e2
      injection e2 with e4 e5
      exact hne e5
    have j1:∀ (k:Nat) (cs:Array Value) (T:TypeId),w3.heap[k]?=some (.cells cs T (0,0))→T≠136→¬ u10.ownBlock=some k:=fun k cs T e0 hne e=>by
     rcases h5.2 with ⟨e1,_⟩ | ⟨g,x4,z4,e1,_,e2,_⟩
     ·rw [e1] at e;cases e
     ·rw [e1] at e
      have e3:some g=some k:=e
      injection e3 with e3
      subst e3
      rw [e0] at e2
      injection e2 with e2
      injection e2 with e4 e5
      exact hne e5
    have s4:¬ u10.ownBlock=some sb:=j1 sb _ _ h7 (by decide)
    have q4:¬ u10.ownBlock=some nb:=j1 nb _ _ n0.out (by decide)
    have x5:¬ u10.ownBlock=some b:=j1 b _ _ h1 (by decide)
    have t6:¬ u10.ownBlock=some tb:=fun e=>by have:=(h5.lt Z0k _ e).2;omega
    clear j1
    have v1:¬ tv.ownBlock=some b:=f3 b _ _ h1 (by decide)
    have n4:¬ tv.ownBlock=some sb:=f3 sb _ _ h7 (by decide)
    have m4:¬ tv.ownBlock=some nb:=f3 nb _ _ n0.out (by decide)
    have f0:¬ tv.ownBlock=some tb:=fun e=>by have:=(h2.lt Z0k _ e).2;omega
    have l4:nb≠b:=fun e=>by
     have e0:=n0.out
     rw [e,h1] at e0
     injection e0 with e0
     injection e0 with e1 e2
     cases e2
    have q1:b<sb:=by have:=w1.out;omega
    have r6:b<w3.heap.size:=Z04 h1
    have q6:nb<w3.heap.size:=Z04 n0.out
    have r4:∀ q,u10.ownBlock=some q→q<w3.heap.size∧w.heap.size≤q:=fun q hq=>⟨(h5.lt Z0k q hq).2,(h5.lt Z0k q hq).1⟩
    have htl:td.length≤1000000100:=by rw [h6,List.length_append];omega
    obtain⟨ta,tc,t4⟩:=(h2.rd Z0k).len
    have k6:=hd_ (Z02 h1 t0)
    have a5:=hd_ (h2.grow Z0k t0)
    have r2:=hd_ (Z02 n0.out t0)
    have g5:=hd_ (h5.grow Z0k t0)
    have i5:=hd_ (Z02 h7 t0)
    have j5:=hd_ (h8.on t0)
    have l6:=hd_ h8.size
    replace t0:=hd_ t0;replace v3:=hd_ v3;replace f3:=hd_ f3;replace h6:=hd_ h6;replace h3:=hd_ h3;replace h4:=hd_ h4;clear h1 h2 h5 h7 h8 a0;go_upto_region 11 with (fail)
    rw [← n2,← d3]
    replace n2:=hd_ n2;replace d3:=hd_ d3;clear b0 b1 b2 b3 b4 b5 b6
    refine Z05 (fun c=>tv.ownBlock=some c) (.q 0 (.q 1 (.q 2 (.q 3 (.q 4 (.q 5 (.l 6 (.l 7 (.q 8 (.q 9 (.cut (.l 10 .fin)))))))))))) (by kernel_rfl) (by kernel_rfl) ?_
    intro w5 q5 w0
    have a1:=Z02 k6.out w0
    have r0:=Z02 v3.out w0
    have ub:=Z01 (F:=fun c=>tv.ownBlock=some c) (b:=w5) v1 (show w5.cell? ⟨b,0,none⟩=some tv from Z00 a1 0)
    have p0:=Z01 (F:=fun c=>tv.ownBlock=some c) (b:=w5) f0 (show w5.cell? ⟨tb,0,none⟩=some (.int .i64 ((k:Int)+1)) from Z00 r0 0)
    have p1:=Z01 (F:=fun c=>tv.ownBlock=some c) (b:=w5) f0 (show w5.cell? ⟨tb,1,none⟩=some (.int .i64 x.frm) from Z00 r0 1)
    have p2:=Z01 (F:=fun c=>tv.ownBlock=some c) (b:=w5) f0 (show w5.cell? ⟨tb,2,none⟩=some (.int .i64 x.boot) from Z00 r0 2)
    have p3:=Z01 (F:=fun c=>tv.ownBlock=some c) (b:=w5) f0 (show w5.cell? ⟨tb,3,none⟩=some (.int .i64 x.seq) from Z00 r0 3)
    have p4:=Z01 (F:=fun c=>tv.ownBlock=some c) (b:=w5) f0 (show w5.cell? ⟨tb,4,none⟩=some (.int .i64 x.ord) from Z00 r0 4)
    have p5:=Z01 (F:=fun c=>tv.ownBlock=some c) (b:=w5) f0 (show w5.cell? ⟨tb,5,none⟩=some (.int .i64 x.lev) from Z00 r0 5)
    have p6:=Z01 (F:=fun c=>tv.ownBlock=some c) (b:=w5) f0 (show w5.cell? ⟨tb,6,none⟩=some (.int .i64 x.stamp) from Z00 r0 6)
    have p7:=Z01 (F:=fun c=>tv.ownBlock=some c) (b:=w5) f0 (show w5.cell? ⟨tb,7,none⟩=some (.string x.data) from Z00 r0 7)
    have d5:=hd_ (a5.out.grow Z0k w0)
    replace a1:=hd_ a1;replace r0:=hd_ r0;replace w0:=hd_ w0;replace q5:=hd_ q5;replace t4:=hd_ t4
    repeat (refine Z0n rfl ?_;go_big_quiet_step (fail);refine wpQuiet_nil ?_)
    clear ub p0 p1 p2 p3 p4 p5 p6 p7;refine Z0j rfl (by kernel_rfl) ?_;intro K1 hK;go_simp
    obtain⟨W5,n1⟩:∃ W5,W5=w5.alloc (.cells #[.int .i64 ((k:Int)+1), .int .i64 x.frm, .int .i64 x.boot, .int .i64 x.seq, .int .i64 x.ord, .int .i64 x.lev, .int .i64 x.stamp, .string x.data] 136):=⟨_,rfl⟩
    have g3:W5.heap[w5.heap.size]?=some (.cells #[.int .i64 ((k:Int)+1), .int .i64 x.frm, .int .i64 x.boot, .int .i64 x.seq, .int .i64 x.ord, .int .i64 x.lev, .int .i64 x.stamp, .string x.data] 136 (0,0)):=n1 ▸ Z0a _ _
    have g4:Chg (fun c=>tv.ownBlock=some c) w5 W5:=n1 ▸ Z1a (Chg.refl _ _)
    have j2:Below w5.heap.size w5 W5:=n1 ▸ (Below.refl _ _).alloc (Nat.le_refl _) _
    have f5:=hd_ (d5.out.grow Z0k j2)
    obtain⟨nc,r3⟩:∃ nc,nc=w5.heap.size:=⟨_,rfl⟩
    rw [← n1,← r3]
    rw [← r3] at g3
    replace g3:=hd_ g3
    have d6:w5.heap.size<W5.heap.size:=by rw [n1];simp
    replace n1:=hd_ n1;replace r3:=hd_ r3
    refine hK _ _ g4 ?_
    clear hK K1
    have o3:=hi.out
    refine Z0j rfl (by kernel_rfl) ?_;intro K1 hK
    refine Z6e _ (.tmp 55) (.tmp 57) 34 rfl 0 136 i0 (.agg #[.int .i64 0, .int .i64 0, .int .i64 0, .int .i64 0, .int .i64 0, .int .i64 0, .int .i64 0, .string ByteArray.empty]) 8 72 Tryz.underlying34 o3 f6 g6 i6 rfl (by decide) tv td.length (Z1h Z0k td) rfl f5.out (.slice (some ⟨nc,0,none⟩) 1 1) 1 _ rfl (Z5y g3.out rfl) ?c1 (by unfold maxLen;omega) (by omega) (Nat.zero_le _) ?_
    case c1=>
     intro u hu
     simp only [List.mem_cons,List.not_mem_nil,or_false] at hu
     rcases hu with rfl | rfl | rfl | rfl | rfl | rfl | rfl | rfl<;>rfl
    intro v6 w6 d0 k4 y0
    have d1:Chg (fun c=>tv.ownBlock=some c) w5 w6:=Z10 g4 k4 fun k hk=>.inl hk
    obtain⟨ad6,l0,rfl⟩:∃ ad c,v6=.slice ad (td.length+1) c:=by
     rcases d0.2 with ⟨h,h0⟩ | ⟨g,x4,z4,h,_⟩
     ·omega
     ·exact⟨_,_,h⟩
    have f2:=Z0g a1.out d1 v1
    have e6:=hd_ (Z0g r0.out d1 f0)
    have s5:=hd_ (Z0g (Z02 r2.out w0.out) d1 m4)
    have a6:=hd_ (Z0g (Z02 i5.out w0.out) d1 n4)
    have t5:=hd_ ((g5.out.grow Z0k w0.out).chg Z0k d1 fun q hq e=>h4.out q e hq)
    have x2:=hd_ ((j5.out.on w0.out).more d1 fun i e=>h3.out i e)
    have z6:w5.heap.size≤w6.heap.size:=d1.size
    have a7:w3.heap.size≤w5.heap.size:=Nat.le_trans t0.out.size w0.out.size
    have n6:W5.heap.size≤w6.heap.size:=k4.size
    have i2:∀ q,(Value.slice ad6 (td.length+1) l0).ownBlock=some q→tv.ownBlock=some q∨w5.heap.size≤q:=fun q hq=>by
     rcases y0 with h | h
     ·exact .inl (h ▸ hq)
     ·rw [hq] at h
      injection h with h
      exact .inr (by omega)
    have q0:w6.cell? ⟨b,0,none⟩=some tv:=Z00 f2 0
    have z0:=Z03 f2 0
    have o6:=Z04 f2
    replace f2:=hd_ f2;replace d0:=hd_ d0;replace y0:=hd_ y0;replace i2:=hd_ i2;clear k4 f5 d5 a5 g3 g4 j2 o3 r2 g5 i5 j5
    rw [t4.out] at q0
    go_simp
    refine hK _ _ d1 ?_
    clear hK K1 d1;refine Z0n rfl ?_;go_big_quiet_step (fail);refine wpQuiet_nil ?_;refine Z0n rfl ?_;go_big_quiet_step (fail);refine wpQuiet_nil ?_;refine Z0h Z1j ?_;refine Z0j rfl (by kernel_rfl) ?_;intro K1 hK;go_simp
    refine hK _ _ (Z06 (Chg.refl _ _) trivial) ?_
    clear hK K1;refine Z0c ?_
    obtain⟨W7,a2⟩:∃ W7,W7=w6.setCell ⟨b,0,none⟩ (.slice ad6 (td.length+1) l0):=⟨_,rfl⟩
    have j0:Chg (fun k=>k=b) w6 W7:=a2 ▸ Z06 (Chg.refl _ _) rfl
    have a3:W7.heap.size=w6.heap.size:=by rw [a2];exact World.size_setCell ..
    have q7:W7.heap[b]?=some (.cells #[.slice ad6 (td.length+1) l0] 194 (0,0)):=a2 ▸ Z0d f2.out
    have own7:ownG Z0k W7 0 136 (.slice ad6 (td.length+1) l0) (td++[((k:Int)+1,x)]):=by
     have e:ownG Z0k w6 0 136 (.slice ad6 (td.length+1) l0) (td++[((k:Int)+1,x)]):=by
      unfold ownG
      rw [List.length_append,Z1u]
      exact d0.out
     refine e.chg Z0k j0 fun q hq e2=>?_
     rcases i2.out q hq with h | h
     ·exact v1 (by rw [h,e2])
     ·omega
    have x7:=Z0g e6.out j0 (by have:=d3.out;omega)
    have n7:=hd_ (Z0g s5.out j0 l4)
    have s7:=hd_ (Z0g a6.out j0 (by omega))
    have o7:=hd_ (t5.out.chg Z0k j0 fun q hq e=>x5 (by rw [hq,e]))
    have y4:=hd_ (x2.out.more j0 fun i e=>.inl (by rw [show i=b from e];exact hF))
    replace q7:=hd_ q7;replace own7:=hd_ own7
    rw [← a2]
    clear q0 z0 o6 e6 s5 a6 t5 x2 j0 y0;replace a2:=hd_ a2;replace d0:=hd_ d0
    have p0:=Z00 x7 0
    have p1:=Z00 x7 1
    have p2:=Z00 x7 2
    have p3:=Z00 x7 3
    have p4:=Z00 x7 4
    have p5:=Z00 x7 5
    have p6:=Z00 x7 6
    have p7:=Z00 x7 7
    simp only [List.getElem?_toArray,List.getElem?_cons_zero,List.getElem?_cons_succ] at p0 p1 p2 p3 p4 p5 p6 p7
    have v4:=Z04 x7
    replace x7:=hd_ x7
    obtain⟨W8,d2⟩:∃ W8,W8=W7.alloc (.cells #[.int .i64 ((k:Int)+1), .int .i64 x.frm, .int .i64 x.boot, .int .i64 x.seq, .int .i64 x.ord, .int .i64 x.lev, .int .i64 x.stamp, .string x.data] 136):=⟨_,rfl⟩
    have b7:W8.heap[W7.heap.size]?=some (.cells #[.int .i64 ((k:Int)+1), .int .i64 x.frm, .int .i64 x.boot, .int .i64 x.seq, .int .i64 x.ord, .int .i64 x.lev, .int .i64 x.stamp, .string x.data] 136 (0,0)):=d2 ▸ Z0a _ _
    have y3:Below W7.heap.size W7 W8:=d2 ▸ (Below.refl _ _).alloc (Nat.le_refl _) _
    have o8:=hd_ (o7.out.grow Z0k y3)
    have j4:Hid (∀ j u,([.int .i64 ((k:Int)+1), .int .i64 x.frm, .int .i64 x.boot, .int .i64 x.seq, .int .i64 x.ord, .int .i64 x.lev, .int .i64 x.stamp, .string x.data]:List Value)[j]?=some u→W8.cell? ((⟨W7.heap.size,0,none⟩:Addr).add j)=some u):=hd_ fun j u hu=>by
     have e:(⟨W7.heap.size,0,none⟩:Addr).add j=⟨W7.heap.size,j,none⟩:=by
      unfold Addr.add;split
      ·next h=>subst h;rfl
      ·simp
     rw [e,Z00 b7]
     simpa using hu
    have k1:w.heap.size≤W8.heap.size:=by have:=y3.size;have:=y4.out.size;omega
    have o3:=hi.out
    replace k1:=hd_ k1
    have y5:outs.length≤61:=by omega
    have y6:=hd_ a3
    clear a3
    rw [d2] at j4 k1
    go_wp2_with (first
     | (at_builtin;refine Z7i _ rfl (.tmp 61) (.tmp 63) 34 rfl w.heap.size 136 i0 (.agg #[.int .i64 0, .int .i64 0, .int .i64 0, .int .i64 0, .int .i64 0, .int .i64 0, .int .i64 0, .string ByteArray.empty]) 8 72 Tryz.underlying34 o3 f6 g6 i6 rfl (by decide) u10 outs.length (Z1h Z0k outs) rfl (World.ownsRow.alloc o7.out _) (.slice (some ⟨W7.heap.size,0,none⟩) 1 1) 1 [.int .i64 ((k:Int)+1), .int .i64 x.frm, .int .i64 x.boot, .int .i64 x.seq, .int .i64 x.ord, .int .i64 x.lev, .int .i64 x.stamp, .string x.data] rfl ⟨rfl, .inr ⟨_,_,rfl,j4.out⟩⟩ ?c2 ?c3 ?c4 ?c5 ?_))
    case c2=>exact⟨rfl,rfl,rfl,rfl,rfl,rfl,rfl,rfl⟩
    case c3=>unfold maxLen;omega
    case c4=>omega
    case c5=>have:=k1.out;simp at this ⊢;omega
    intro v9 w9 m1 n5 o2
    have k0:Chg (fun c=>u10.ownBlock=some c) W7 w9:=Z10 (d2 ▸ Chg.of_below y3) n5 fun k hk=>.inl hk
    have q9:=Z0g q7.out k0 x5
    have n9:=Z0g n7.out k0 q4
    have s9:=Z0g s7.out k0 s4
    have own9:=own7.out.chg Z0k k0 fun q hq e=>by
     rcases i2.out q hq with h | h
     ·exact h4.out q h e
     ·have:=(r4 q e).1;omega
    have v5:ownG Z0k w9 w.heap.size 136 v9 (outs++[((k:Int)+1,x)]):=by
     unfold ownG
     rw [List.length_append,Z1u]
     exact m1
    have k3:GoI w w9 b F v9 sb a o t m td0 (td++[((k:Int)+1,x)]) (outs++[((k:Int)+1,x)]):=by
     refine⟨⟨_,q9,own9,fun q hq=>?_,fun q hq e=>?_⟩,v5,by rw [h6.out,List.append_assoc],s9,y4.out.more k0 fun i e=>.inr (r4 i e).2⟩
     ·rcases i2.out q hq with h | h
      ·exact h3.out q h
      ·right
       have:=l6.out
       omega
     ·rcases o2 with h | h
      ·rw [h] at e
       rcases i2.out q hq with h' | h'
       ·exact h4.out q h' e
       ·have:=(r4 q e).1;omega
      ·rw [e] at h
       injection h with h
       have:=(own7.out.lt Z0k q hq).2
       omega
    have m2:=Z5b b (td++[((k:Int)+1,x)]) x w9 k3.rd
    rw [show Z1r (td++[((k:Int)+1,x)]) x=true by unfold Z1r;simp [Z35]] at m2
    replace m2:=hd_ m2
    have b0:=Z00 n9 0
    have b1:=Z00 n9 1
    have b2:=Z00 n9 2
    have b3:=Z00 n9 3
    have b4:=Z00 n9 4
    have b5:=Z00 n9 5
    have b6:=Z00 n9 6
    simp only [List.getElem?_toArray,List.getElem?_cons_zero,List.getElem?_cons_succ] at b0 b1 b2 b3 b4 b5 b6
    have e7:=Z04 n9
    replace k3:=hd_ k3;clear own9 v5 s9 q9 n9 k0 m1 n5 o2 p0 p1 p2 p3 p4 p5 p6 p7 v4 j4;replace d2:=hd_ d2;go_wp2_with fail
    refine m2.out.mono ?_
    rintro r w10 ⟨rfl,q2⟩
    have a4:=hd_ (k3.out.grow q2)
    clear q2 m2 b0 b1 b2 b3 b4 b5 b6 e7;go_wp2
    go_roundw
    case rel=>exact⟨k+1,td++[((k:Int)+1,x)],outs++[((k:Int)+1,x)],a,o,t,m,hlt,by go_num,hd_ ⟨a4.out,x0.out,by rw [List.length_append];simp;omega,fun y hy=>by
     rcases List.mem_append.1 hy with h | h
     ·exact g1.out y h
     ·rw [List.mem_singleton.1 h]
      show x ∈ L
      rw [hx.out];exact List.getElem_mem hlt⟩⟩
    case measure=>simp [intOf];omega
  ·obtain rfl:k=L.length:=by omega
   obtain⟨hI,hg,s6,g1⟩:=hJ.out
   rw [List.drop_length] at hg
   have m5:td=Z78 cc now L 1 true true true td0:=hg
   obtain⟨⟨tv,h1,h2,h3,h4⟩,h5,h6,h7,h8⟩:=hI
   have i4:Hid (Z78 cc now L 1 true true true td0=td0++outs∧(∀ x ∈ outs,x.2 ∈ L)∧ownG Z0k wr w.heap.size 136 u10 outs ∧
     (∃ F',rqO wr F' b (td0++outs)∧(∀ k,F' k→F k∨w.heap.size≤k∧k<wr.heap.size)∧∀ k,u10.ownBlock=some k→¬ F' k)∧Chg F w wr):=hd_ (by
    refine⟨by rw [← m5,h6],g1,h5,⟨fun k=>k=b∨tv.ownBlock=some k,⟨.inl rfl,tv,h1,by rw [← h6];exact h2,fun k hk=>.inr hk⟩,fun k hk=>?_,fun k hk e=>?_⟩,h8⟩
    ·rcases hk with rfl | hk
     ·exact .inl hF
     ·exact (h3 k hk).imp id fun h=>⟨h,(h2.lt Z0k k hk).2⟩
    ·rcases e with rfl | e
     ·have:=(h5.lt Z0k _ hk).1;omega
     ·exact h4 k e hk)
   clear h1 h2 h3 h4 h5 h6 h7 h8 hg m5;go_wp2
   go_ret
   exact⟨_,outs,rfl,i4.out⟩
end
section
open Go.RowKit
def M0 (own:Nat→Nat) (w:World):Prop:=own 0=0∧∃ m,w.cell? ⟨0,0,none⟩=some (.int .i64 m)
theorem M0.turn {own own':Nat→Nat} {w w':World} {K:Nat} (h:M0 own w) (hk:16≤K) (t:Turn (JK K) own own' w w'):M0 own' w':=by
 obtain⟨h1,m,h2⟩:=h
 have hl:=Z0f h2
 refine⟨(t.old 0 hl).trans h1,m,?_⟩
 rw [World.cell?_of_block (w:=w) (a:=⟨0,0,none⟩) (t.chg.block 0 hl (by rw [h1];exact jk0 hk))]
 exact h2
structure Tell (s:Nd):Prop where
 l60:s.L.length≤60
 may:∀ e ∈ s.L,Z2l e=true
 c0:0≤s.com
 td:s.td.length≤100000000
 tb:s.tb.length≤100000000
 n0:0≤s.clock
 n1:s.clock≤1099511627776
section
variable {own:Nat→Nat} {K:Nat} {w:World} {a:NdAt} {s:Nd} {out:List MsS}
theorem ndDone (h:NdO own K w a s out) (l:List Ent) (a2:Option Addr) (c2:Nat) (hr:rdE w (.slice a2 l.length c2) l) (hn:0<l.length→∀ k,(Value.slice a2 l.length c2).ownBlock=some k→own k=0) :
  Calls Tryz.prog 184 #[Z09 a.p, .slice a2 l.length c2] w fun r w'=>∃ n,r=.returned (.int .i64 n)∧∃ own',NdO own' K w' a { s with pend:=Z1b l s.pend } out∧Turn (fun o=>o=K+4) own own' w w':=by
 have hk:=h.r.k16
 refine (Zg3 a.p s.id s.boot s.pseq _ s.pend l a2 c2 w h.r.pn hr fun h0 k hk2 e=>?_).mono ?_
 ·have e1:=hn h0 k hk2
  have e2:own k=K+4:=e
  omega
 ·rintro r w' ⟨n,rfl,hp,hc⟩
  have t:=Turn.ext hc
  refine⟨n,rfl,_,?_,t⟩
  have e:=h.r.putP (t.mono (J':=fun o=>o=K∨o=K+4) fun o e=>.inr e) (hp.mono (t.is h.wf (by omega)))
  exact⟨t.pub h.blk (by rw [h.r.ob];omega),h.ears,e⟩
open Classical in
theorem ndGo (h:NdO own K w a s out) (a2:Option Addr) (c2:Nat) (hr:rdE w (.slice a2 s.L.length c2) s.L) (hn:0<s.L.length→∀ k,(Value.slice a2 s.L.length c2).ownBlock=some k→own k=0) (ht:Tell s) :
  Calls Tryz.prog 185 #[Z09 a.r, .slice a2 s.L.length c2, .int .i64 s.com, .int .i64 s.clock] w fun r w'=>∃ v outs,r=.returned v∧Zid s.td s.L s.com s.clock=s.td++outs∧(∀ x ∈ outs,Z2l x.2=true)∧rdS 8 (atG Z0k) w' v outs ∧
   ∃ own',NdO own' K w' a { s with td:=s.td++outs } out∧Turn (fun o=>o=K+5) own own' w w'∧∀ k,v.ownBlock=some k→own' k=0:=by
 have hk:=h.r.k16
 refine (rdGo_any a.r s.td _ s.L a2 c2 s.com s.clock w h.r.rq hr (fun h0 k a0 e=>?_) ht.may ht.l60 (by have:=ht.td;omega) ⟨ht.n0,ht.n1⟩).mono ?_
 ·have e1:=hn h0 k a0
  have e2:own k=K+5:=e
  omega
 ·rintro r w' ⟨v,outs,rfl,hg,b0,ho,⟨F',hq,c0,hv⟩,hc⟩
  have t:=Turn.cls (J:=fun o=>o=K+5) (own:=own) (fun c=>if F' c then K+5 else 0) hc
  refine⟨v,outs,rfl,hg,fun x hx=>ht.may _ (b0 x hx),ho.rd Z0k,_,⟨t.pub h.blk (by rw [h.r.ob];omega),h.ears,h.r.putR (t.mono (J':=fun o=>o=K∨o=K+5) fun o e=>.inr e) (hq.mono fun k hk'=>?_)⟩,t,fun k hk'=>?_⟩
  ·show clsO _ _ _ _ k=K+5
   rcases c0 k hk' with e | ⟨e1,e2⟩
   ·have e:own k=K+5:=e
    have:k<w.heap.size:=Nat.lt_of_not_le fun hge=>by rw [h.wf k hge] at e;omega
    unfold clsO;rw [if_pos this];exact e
   ·unfold clsO;rw [if_neg (by omega),if_pos e2];exact if_pos hk'
  ·have a0:=ho.lt Z0k k hk'
   show clsO _ _ _ _ k=0
   unfold clsO;rw [if_neg (by omega),if_pos a0.2];exact if_neg (hv k hk')
theorem ndDo (h:NdO own K w a s out) (hm:M0 own w) (e:Ent) (hd:e.data.size<4294967281) (hl:s.tb.length≤1000000000000) :
  Calls Tryz.prog 186 #[Z09 a.tq,e.val] w fun r w'=>r=.returned (.bool (okDo e))∧NdO own K w' a { s with tb:=Z75 s.tb e } out∧Turn (fun o=>o=K+6) own own w w':=by
 have hk:=h.r.k16
 obtain⟨_,m,hm⟩:=hm
 obtain⟨h1,h2,h3⟩:=h.r.tt
 refine (tDo_gen a.tq a.tb s.tb e m w h3 hl hm hd).mono ?_
 rintro r w' ⟨rfl,hT,hc⟩
 have t:Turn (fun o=>o=K+6) own own w w':=.same (hc.mono fun k _ e=>by rw [show k=a.tb from e];exact h2) h.wf
 exact⟨rfl,⟨t.pub h.blk (by rw [h.r.ob];omega),h.ears,h.r.putT (t.mono (J':=fun o=>o=K∨o=K+6) fun o e=>.inr e) ⟨h1,h2,hT⟩⟩,t⟩
end
end
section
open Go.RowKit
theorem Z8l (tb:Tb) (l:Td) (k:Nat) (h:k<l.length):Z3j tb (l.take (k+1))=if l[k].2.ord==1&&l[k].2.lev != 0 then Z75 (Z3j tb (l.take k)) l[k].2 else Z3j tb (l.take k):=by
 unfold Z3j
 rw [List.take_succ_eq_append_getElem h,List.foldl_append]
 rfl
theorem Zax (tb:Tb) (l:Td):(Z3j tb l).length≤tb.length+l.length:=by
 have a0:∀ k,k≤l.length→(Z3j tb (l.take k)).length≤tb.length+k:=by
  intro k
  induction k with
  | zero=>intro _;exact Nat.le_refl _
  | succ k ih=>
    intro hk
    have h1:=ih (by omega)
    rw [Z8l tb l k (by omega)]
    split
    ·have:=next_len (Z3j tb (l.take k)) l[k].2;omega
    ·omega
 have:=a0 l.length (Nat.le_refl _)
 rwa [List.take_length] at this
theorem fromE0 (l:List Ent):Z4o l 0=l:=by unfold Z4o;simp
section
variable {own:Nat→Nat} {K:Nat} {w:World} {a:NdAt} {s:Nd} {out:List MsS}
theorem Zd1 (h:NdO own K w a s out) (hm0:M0 own w) (ht:Tell s) :
  Calls Tryz.prog 142 #[Z09 a.b] w fun r w'=>r=.returned (.tuple #[])∧∃ own',NdO own' K w' a s.settle out∧Turn (JK K) own own' w w':=by
 have r0:=h.r.k16
 have c9:w.cell? ⟨a.b,9,none⟩=some (Z09 a.l):=h.c 9
 have hl:=h.lt
 have m3:=hd_ h.r.lg.rd
 have hc0:=ht.c0
 have g4:=ht.l60
 obtain⟨R,hR⟩:∃ R,R=s.settle:=⟨_,rfl⟩
 rw [← hR]
 replace hR:=hd_ hR;replace h:=hd_ h;replace hm0:=hd_ hm0;replace ht:=hd_ ht
 go_enter Tryz.func142,Tryz.ntmps142
 go_wp2_with fail
 refine (Z19 a.l s.L 0 _ m3.out (by omega)).mono ?_
 rintro r w1 ⟨v1,rfl,y2,m2⟩
 rw [fromE0] at y2
 have b2:=h.out.grow m2
 have o0:pubE own w1 v1 s.L:=pubE.new y2 h.out.wf
 have m4:=hd_ (Turn.grow (J:=JK K) (own:=own) m2 h.out.wf)
 obtain⟨ad,cp,rfl,hcp,a4,_⟩:=o0.1
 unfold maxLen at a4
 replace b2:=hd_ b2;replace o0:=hd_ o0;clear c9 hl m3 y2 m2;go_upto_region 1 with (fail)
 refine Z05 (fun _=>False) (.q 0 (.q 1 (.q 2 (.q 3 (.q 4 (.q 5 (.q 6 (.q 7 (.q 8 (.q 9 (.q 10 (.q 11 (.q 12 (.cut (.l 13 .fin))))))))))))))) (by kernel_rfl) (by kernel_rfl) ?_
 intro w2 s2 l0
 have d0:=b2.out.grow l0
 have f3:=Z01 (F:=fun _=>False) (b:=w2) (fun h=>h) (show w2.cell? ⟨a.b,10,none⟩=some (.int .i64 s.com) from d0.c 10)
 have s4:=Z01 (F:=fun _=>False) (b:=w2) (fun h=>h) (show w2.cell? ⟨a.b,13,none⟩=some (Z09 a.p) from d0.c 13)
 have v2:=d0.lt
 have t2':=Turn.grow (J:=JK K) (own:=own) l0 b2.out.wf
 have x0:=hd_ (o0.out.turn t2' (jk0 r0))
 have n4:=hd_ (m4.out.trans t2')
 replace d0:=hd_ d0;clear s2 t2';replace l0:=hd_ l0;iterate 13 (refine Z0n rfl ?_;go_big_quiet_step (fail);refine wpQuiet_nil ?_)
 refine Z0h Z1j ?_;refine Z0j rfl (by kernel_rfl) ?_;intro K1 hK;go_simp
 obtain⟨n2,i2⟩:∃ n2,n2=(min s.com (s.L.length:Int)).toNat:=⟨_,rfl⟩
 have x2:(s.L.take n2).length=n2:=by rw [List.length_take];omega
 have hD:=ndDone d0.out (s.L.take n2) ad cp (by rw [x2];exact Z8w x0.out.1 n2 (by omega)) (fun h0 k hk=>x0.out.2 (by rw [List.length_take] at h0;omega) k (by cases ad with | none=>cases hk | some x=>exact hk))
 rw [x2] at hD
 rw [← i2]
 refine hD.mono ?_
 rintro r w3 ⟨n3,rfl,own3,b1,t3⟩
 have t3':=t3.mono (J':=JK K) fun o e=>by unfold JK;omega
 refine hK _ _ (Z0l t3) ?_
 clear hK K1 hD;refine Z0c ?_
 have b3:=hd_ (x0.out.turn t3' (jk0 r0))
 have o4:=hd_ (n4.out.trans t3')
 obtain⟨s3,k0⟩:∃ s3:Nd,s3={ s with pend:=Z1b (s.L.take n2) s.pend }:=⟨_,rfl⟩
 rw [← k0] at b1
 have a0:Tell s3:=by rw [k0];exact⟨ht.out.l60,ht.out.may,ht.out.c0,ht.out.td,ht.out.tb,ht.out.n0,ht.out.n1⟩
 have e1:s3.L=s.L:=by rw [k0]
 have e2:s3.com=s.com:=by rw [k0]
 have e3:s3.clock=s.clock:=by rw [k0]
 have e4:s3.td=s.td:=by rw [k0]
 have e5:s3.tb=s.tb:=by rw [k0]
 replace b1:=hd_ b1;replace a0:=hd_ a0;replace k0:=hd_ k0;replace i2:=hd_ i2;clear f3 s4 v2 t3 t3' x2
 have t0:pubE own3 w3 (.slice ad s3.L.length cp) s3.L:=by rw [e1];exact b3.out
 rw [← e1]
 replace e1:=hd_ e1;replace e2:=hd_ e2;replace e3:=hd_ e3;replace e4:=hd_ e4;replace e5:=hd_ e5;go_upto_region 2 with (fail)
 have w0:¬ own3 a.b=K+5:=by have:=b1.out.r.ob;omega
 refine Z05 (fun c=>own3 c=K+5) (.q 0 (.q 1 (.q 2 (.q 3 (.q 4 (.q 5 (.q 6 (.q 7 (.q 8 (.q 9 (.q 10 (.q 11 (.q 12 (.q 15 (.l 13 (.q 14 .fin)))))))))))))))) (by kernel_rfl) (by kernel_rfl) ?_
 intro w4 t2 m0
 have e0:=b1.out.grow m0
 have u4:=Z01 (F:=fun c=>own3 c=K+5) (b:=w4) w0 (show w4.cell? ⟨a.b,4,none⟩=some (.int .i64 s3.clock) from e0.c 4)
 have f3:=Z01 (F:=fun c=>own3 c=K+5) (b:=w4) w0 (show w4.cell? ⟨a.b,10,none⟩=some (.int .i64 s3.com) from e0.c 10)
 have t4:=Z01 (F:=fun c=>own3 c=K+5) (b:=w4) w0 (show w4.cell? ⟨a.b,14,none⟩=some (Z09 a.r) from e0.c 14)
 have t4':=Turn.grow (J:=JK K) (own:=own3) m0 b1.out.wf
 have t1:=hd_ (t0.turn t4' (jk0 r0))
 have q4:=hd_ (o4.out.trans t4')
 replace e0:=hd_ e0;clear t2 t4' t0;replace m0:=hd_ m0;iterate 14 (refine Z0n rfl ?_;go_big_quiet_step (fail);refine wpQuiet_nil ?_)
 refine Z0j rfl (by kernel_rfl) ?_;intro K1 hK;go_simp
 refine (ndGo e0.out ad cp t1.out.1 t1.out.2 a0.out).mono ?_
 rintro r w5 ⟨v5,outs,rfl,l3,s0,x1,own5,l2,t5,v3⟩
 have t5':=t5.mono (J':=JK K) fun o e=>by unfold JK;omega
 refine hK _ _ t5.chg ?_
 clear hK K1
 obtain⟨oa,oc,rfl⟩:=x1.len
 refine Z0n rfl ?_;go_big_quiet_step (fail);refine wpQuiet_nil ?_;refine Z0c ?_
 have r3:=hd_ (q4.out.trans t5')
 have o3:=hm0.out.turn r0 r3.out
 have d2:=l3
 rw [e1.out,e2.out,e3.out,e4.out] at d2
 have s1:∀ x ∈ outs,Z2l x.2=true:=s0
 have q3:outs.length≤60:=by
  have h1:(Zid s.td s.L s.com s.clock).length≤s.td.length+60:=by
   unfold Zid
   have:=Z9h (min (max s.com 0) ((s.L.take 60).length:Int)) s.clock (s.L.take 60) 1 true true true s.td
   rw [List.length_take] at this ⊢
   omega
  rw [d2,List.length_append] at h1
  omega
 have v0:∀ x ∈ outs,x.2.data.size≤16:=fun x hx=>Z1l (s1 x hx)
 have q1:R={ s3 with td:=s3.td++outs,tb:=Z3j s3.tb outs }:=by
  rw [hR.out,k0.out]
  unfold Nd.settle
  dsimp only
  rw [d2,List.drop_left,i2.out]
  rfl
 obtain⟨_,cc,k4,d4,m1,i3⟩:=x1
 injection k4 with z1 z2 z3
 subst z1 z3
 unfold maxLen at m1
 have l4:({ s3 with td:=s3.td++outs }:Nd)={ s3 with td:=s3.td++outs,tb:=Z3j s3.tb (outs.take 0) }:=by rw [List.take_zero];rfl
 obtain⟨s5,y1⟩:∃ s5:Nd,s5={ s3 with td:=s3.td++outs }:=⟨_,rfl⟩
 rw [← y1] at l2
 have e6:s5.tb=s3.tb:=by rw [y1]
 have g0:R={ s5 with tb:=Z3j s5.tb outs }:=by rw [q1,y1]
 have y3:s5.tb.length≤100000000:=by rw [e6];exact a0.out.tb
 have x3:Hid (∃ own',NdO own' K w5 a { s5 with tb:=Z3j s5.tb (outs.take 0) } out∧Turn (JK K) own own' w w5∧M0 own' w5∧rdS 8 (atG Z0k) w5 (.slice oa outs.length oc) outs∧∀ k,(Value.slice oa outs.length oc).ownBlock=some k→own' k=0):=hd_
  ⟨own5,by rw [List.take_zero];exact l2,r3.out,o3,⟨_,oc,rfl,d4,by unfold maxLen;exact m1,i3⟩,v3⟩
 replace g0:=hd_ g0;replace v0:=hd_ v0;replace y1:=hd_ y1;replace e6:=hd_ e6;clear u4 f3 t4 t5 t5' l3 d2 q1 l4 l2 o3 i3 v3 s0 s1;go_wp2
 go_loopw [39,4] (fun i _ wr=>∃ k:Nat,k≤outs.length∧i=.int .i64 k∧Hid (∃ own',NdO own' K wr a { s5 with tb:=Z3j s5.tb (outs.take k) } out∧Turn (JK K) own own' w wr∧M0 own' wr∧rdS 8 (atG Z0k) wr (.slice oa outs.length oc) outs∧∀ k,(Value.slice oa outs.length oc).ownBlock=some k→own' k=0)) (fun i _ _=>outs.length-(intOf i).toNat)
 case atStart=>exact⟨0,Nat.zero_le _,rfl,x3⟩
 case round=>
  obtain⟨k,hk,rfl,hI⟩:=hrel
  by_cases hlt:k<outs.length
  ·obtain⟨own6,j0,z0,r1,p0,a1⟩:=hI.out
   have i0:=p0
   obtain⟨oaa,cc2,a3,_,_,o1⟩:=p0
   injection a3 with z1 z2 z3
   subst z1 z3
   obtain⟨gb,off,rfl,hc⟩:=o1 (by omega)
   have j3:=Zeg (hc k hlt)
   have i4:=v0.out _ (List.getElem_mem hlt)
   have a2:=Z8l s5.tb outs k hlt
   obtain⟨x,hx⟩:∃ x,x=outs[k]:=⟨_,rfl⟩
   rw [← hx] at j3 i4 a2
   replace hx:=hd_ hx
   obtain⟨c0,c1,c2,c3,c4,c5,c6,c7⟩:=j3
   obtain⟨W7,l1⟩:∃ W,W=wr.alloc (.cells #[.int .i64 x.1, .int .i64 x.2.frm, .int .i64 x.2.boot, .int .i64 x.2.seq, .int .i64 x.2.ord, .int .i64 x.2.lev, .int .i64 x.2.stamp, .string x.2.data] 136):=⟨_,rfl⟩
   have i1:Below wr.heap.size wr W7:=l1 ▸ (Below.refl _ _).alloc (Nat.le_refl _) _
   obtain⟨nb,j2⟩:∃ nb,nb=wr.heap.size:=⟨_,rfl⟩
   have f1:W7.heap[nb]?=some (.cells #[.int .i64 x.1, .int .i64 x.2.frm, .int .i64 x.2.boot, .int .i64 x.2.seq, .int .i64 x.2.ord, .int .i64 x.2.lev, .int .i64 x.2.stamp, .string x.2.data] 136 (0,0)):=l1 ▸ j2 ▸ Z0a _ _
   have j1:=j0.grow i1
   have t7:=Turn.grow (J:=JK K) i1 j0.wf
   have k2:=z0.trans t7
   have f2:=r1.turn r0 t7
   have q0:rdS 8 (atG Z0k) W7 (.slice (some ⟨gb,off,none⟩) outs.length oc) outs:=rdS.grow (fun w w' b o x h hb=>h.grow Z0k w w' b o x hb) i0 i1
   have j4:own6 nb=0:=j0.wf nb (by omega)
   have lbx:=Z04 f1
   have b4:=Z00 f1 4
   have b5:=Z00 f1 5
   simp only [List.getElem?_toArray,List.getElem?_cons_zero,List.getElem?_cons_succ] at b4 b5
   obtain⟨g1,k3⟩:∃ c,(x.2.ord==1)=c:=⟨_,rfl⟩
   obtain⟨g2,q2⟩:∃ c,(x.2.lev != 0)=c:=⟨_,rfl⟩
   rw [k3,q2] at a2
   replace f1:=hd_ f1;replace j1:=hd_ j1;replace k2:=hd_ k2;replace f2:=hd_ f2;replace q0:=hd_ q0;replace a1:=hd_ a1;replace a2:=hd_ a2;replace r1:=hd_ r1;replace j0:=hd_ j0;replace z0:=hd_ z0;replace i0:=hd_ i0;replace i1:=hd_ i1;clear hc o1 t7;go_upto_region 5 with (fail)
   rw [← l1,← j2]
   replace l1:=hd_ l1;replace j2:=hd_ j2;clear c0 c1 c2 c3 c4 c5 c6 c7
   go_cut [52] (fun z wx=>z=.bool (g1&&g2)∧W7=wx)
   case first=>
    cases g1
    ·go_wp2_with fail
     go_meet
     exact⟨rfl,rfl⟩
    ·go_wp2_with fail
     go_meet
     exact⟨by rw [← q2];simp,rfl⟩
   case rest=>
    obtain⟨rfl,r4⟩:=hcut
    rename World=>wx
    subst r4;clear k3 q2 b4 b5
    obtain⟨gg,r2⟩:∃ gg,(g1&&g2)=gg:=⟨_,rfl⟩
    have f0:=a2.out
    rw [r2] at f0 ⊢
    replace r2:=hd_ r2
    cases gg
    case false=>
     have o2:Hid (∃ own',NdO own' K W7 a { s5 with tb:=Z3j s5.tb (outs.take (k+1)) } out∧Turn (JK K) own own' w W7∧M0 own' W7∧rdS 8 (atG Z0k) W7 (.slice (some ⟨gb,off,none⟩) outs.length oc) outs∧∀ k,(Value.slice (some ⟨gb,off,none⟩) outs.length oc).ownBlock=some k→own' k=0):=hd_
      ⟨own6,by rw [f0];exact j1.out,k2.out,f2.out,q0.out,a1.out⟩
     clear f0;go_wp2
     go_roundw
     case rel=>exact⟨k+1,by omega,by go_num,o2⟩
     case measure=>simp [intOf];omega
    replace f0:=hd_ f0;go_upto_region 6 with (fail)
    refine Z05 (fun _=>False) (.q 0 (.q 1 (.q 2 (.q 3 (.q 4 (.q 5 (.cut (.l 6 .fin)))))))) (by kernel_rfl) (by kernel_rfl) ?_
    intro w8 f4 d1
    have k1:=j1.out.grow d1
    have b0:=Z02 f1.out d1
    have v4:=Z01 (F:=fun _=>False) (b:=w8) (fun h=>h) (show w8.cell? ⟨a.b,15,none⟩=some (Z09 a.tq) from k1.c 15)
    have p1:=Z01 (F:=fun _=>False) (b:=w8) (fun h=>h) (show w8.cell? ⟨nb,1,none⟩=some (.int .i64 x.2.frm) from Z00 b0 1)
    have p2:=Z01 (F:=fun _=>False) (b:=w8) (fun h=>h) (show w8.cell? ⟨nb,2,none⟩=some (.int .i64 x.2.boot) from Z00 b0 2)
    have p3:=Z01 (F:=fun _=>False) (b:=w8) (fun h=>h) (show w8.cell? ⟨nb,3,none⟩=some (.int .i64 x.2.seq) from Z00 b0 3)
    have p4:=Z01 (F:=fun _=>False) (b:=w8) (fun h=>h) (show w8.cell? ⟨nb,4,none⟩=some (.int .i64 x.2.ord) from Z00 b0 4)
    have p5:=Z01 (F:=fun _=>False) (b:=w8) (fun h=>h) (show w8.cell? ⟨nb,5,none⟩=some (.int .i64 x.2.lev) from Z00 b0 5)
    have p6:=Z01 (F:=fun _=>False) (b:=w8) (fun h=>h) (show w8.cell? ⟨nb,6,none⟩=some (.int .i64 x.2.stamp) from Z00 b0 6)
    have p7:=Z01 (F:=fun _=>False) (b:=w8) (fun h=>h) (show w8.cell? ⟨nb,7,none⟩=some (.string x.2.data) from Z00 b0 7)
    have t8:=Turn.grow (J:=JK K) d1 j1.out.wf
    have d3:=k2.out.trans t8
    have h2:=f2.out.turn r0 t8
    have y0:rdS 8 (atG Z0k) w8 (.slice (some ⟨gb,off,none⟩) outs.length oc) outs:=rdS.grow (fun w w' b o x h hb=>h.grow Z0k w w' b o x hb) q0.out d1
    have h4:a.b<w8.heap.size:=k1.lt
    replace k1:=hd_ k1;replace d3:=hd_ d3;replace h2:=hd_ h2;replace y0:=hd_ y0;clear f4 b0 t8;replace d1:=hd_ d1
    repeat (refine Z0n rfl ?_;go_big_quiet_step (fail);refine wpQuiet_nil ?_)
    refine Z0h Z1j ?_;refine Z0j rfl (by kernel_rfl) ?_;intro K1 hK;go_simp
    have g3:=ndDo k1.out h2.out x.2 (by omega) (by have:=Zax s5.tb (outs.take k);rw [List.length_take] at this;show (Z3j s5.tb (outs.take k)).length≤1000000000000;omega)
    refine g3.mono ?_
    rintro r w9 ⟨rfl,h3,t9⟩
    have t9':=t9.mono (J':=JK K) fun o e=>by unfold JK;omega
    refine hK _ _ (Z0l t9) ?_
    clear hK K1 g3;refine Z0c ?_
    have o2:Hid (∃ own',NdO own' K w9 a { s5 with tb:=Z3j s5.tb (outs.take (k+1)) } out∧Turn (JK K) own own' w w9∧M0 own' w9∧rdS 8 (atG Z0k) w9 (.slice (some ⟨gb,off,none⟩) outs.length oc) outs∧∀ k,(Value.slice (some ⟨gb,off,none⟩) outs.length oc).ownBlock=some k→own' k=0):=hd_
     ⟨own6,by rw [f0.out];exact h3,d3.out.trans t9',h2.out.turn r0 t9',rdG.same Z0k y0.out (fun q hq hlt2=>t9'.chg.block q hlt2 (by rw [a1.out q hq];exact jk0 r0)),a1.out⟩
    clear v4 p1 p2 p3 p4 p5 p6 p7 h3 t9 t9' h4;go_wp2
    go_roundw
    case rel=>exact⟨k+1,by omega,by go_num,o2⟩
    case measure=>simp [intOf];omega
  ·obtain rfl:k=outs.length:=by omega
   rw [List.take_length] at hI
   obtain⟨own6,j0,z0,r1,p0,a1⟩:=hI.out
   rw [← g0.out] at j0
   replace j0:=hd_ j0;replace z0:=hd_ z0;clear r1 p0 a1;go_wp2
   go_end0
   exact⟨rfl,own6,j0.out,z0.out⟩
end
end
end Go.Proofs.YtbonjbokofkafaaGreat
