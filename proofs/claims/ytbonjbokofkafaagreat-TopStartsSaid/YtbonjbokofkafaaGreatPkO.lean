/- Lemmas of the proof: PkO. -/
import Derived.Test.YtbonjbokofkafaaGreatPkM
namespace Go.Proofs.YtbonjbokofkafaaGreat
set_option linter.unusedVariables false
set_option maxRecDepth 100000
set_option maxHeartbeats 64000000
section
open Go.RowKit
theorem Zcv {α:Type} (S:Shp α) {w:World} {b off:Nat} {l:List α} (h:∀ j (h:j<l.length),atG S w b (off+j*S.size) l[j]) :
  ∀ j u,(Z1h S l)[j]?=some u→w.cell? ((⟨b,off,none⟩:Addr).add j)=some u:=by
 intro j u hu
 have hp:=S.pos
 have hj:j<l.length*S.size:=by
  have:=(List.getElem?_eq_some_iff.1 hu).1
  rw [Z2u] at this;exact this
 have e:(⟨b,off,none⟩:Addr).add j=⟨b,off+j,none⟩:=by
  unfold Addr.add;split
  ·next h=>subst h;rfl
  ·rfl
 rw [e]
 have hq:j / S.size<l.length:=Nat.div_lt_of_lt_mul (by rw [Nat.mul_comm];exact hj)
 have hm:j % S.size<S.size:=Nat.mod_lt _ hp
 have a0:j / S.size*S.size+j % S.size=j:=by rw [Nat.mul_comm];exact Nat.div_add_mod j S.size
 have hg:=Z3d S l (j / S.size) hq (j % S.size) hm
 rw [a0,hu] at hg
 have hc:=h (j / S.size) hq (j % S.size) u hg.symm
 rw [Nat.add_assoc,a0] at hc
 exact hc
theorem infoTold:(Tryz.prog.info? 136).map (fun i=>(i.zero,i.size,i.bytes))=some (some (.agg #[.int .i64 0, .int .i64 0, .int .i64 0, .int .i64 0, .int .i64 0, .int .i64 0, .int .i64 0, .string ByteArray.empty]),8,72):=by kernel_rfl
theorem Zcw (v:Value) (l:Td) (w:World) (hr:rdS 8 (atG Z0k) w v l) (hB:l.length≤1000000000) :
  Calls Tryz.prog 149 #[v] w fun r w'=>∃ v',r=.returned v'∧ownG Z0k w' w.heap.size 136 v' l∧Below w.heap.size w w':=by
 obtain⟨i0,hi,j0,k0,l0⟩:=info_parts infoTold
 obtain⟨a,d0,rfl,hm,hM,ha⟩:=hr
 unfold maxLen at hM
 cases a with
 | none=>
   have hl:l=[]:=by
    cases l with
    | nil=>rfl
    | cons x l=>obtain⟨_,_,h,_⟩:=ha (by simp);cases h
   subst hl
   have f0:=fun (w:World)=>Lib.run_eql_slice_nil (P:=Tryz.prog) w 34 136 none 0 d0 0 0 Tryz.underlying34
   clear ha
   go_enter Tryz.func149,Tryz.ntmps149
   go_wp2
   go_ret
   exact⟨_,rfl,Z12 _ _ _ _,Below.refl _ _⟩
 | some x=>
   have e0:∀ j u,(Z1h Z0k l)[j]?=some u→w.cell? (x.add j)=some u∧x.block<w.heap.size:=by
    intro j u hu
    have hl:0<l.length:=by
     cases l with
     | nil=>simp [Z1h] at hu
     | cons x l=>simp
    obtain⟨b,off,e,hc⟩:=ha hl
    injection e with e
    subst e
    exact⟨Zcv Z0k hc j u hu,(hc 0 hl).lt Z0k⟩
   replace e0:=hd_ e0;clear ha
   have h0:=hd_ (show (Z1h Z0k l).length=l.length*8 from Z2u Z0k l)
   have a0:=World.ownsRow_made (base:=w.heap.size) (e:=136) (size:=8) w #[] 0 (Nat.le_refl _) (Nat.zero_le _) rfl
   replace a0:=hd_ a0
   have f0:=fun (w:World)=>Lib.run_eql_slice_nil (P:=Tryz.prog) w 34 136 (some x) l.length d0 0 0 Tryz.underlying34
   go_enter Tryz.func149,Tryz.ntmps149
   go_wp2_with (first
    | (at_builtin;refine wpList_append_own _ rfl _ _ 34 rfl w.heap.size 136 i0 (.agg #[.int .i64 0, .int .i64 0, .int .i64 0, .int .i64 0, .int .i64 0, .int .i64 0, .int .i64 0, .string ByteArray.empty]) 8 72 Tryz.underlying34 hi j0 k0 l0 rfl (by decide) _ _ _ rfl a0.out x l.length d0 (Z1h Z0k l) rfl h0.out ?c1 ?c2 ?c3 ?c4 ?c5 ?_))
   case c1=>
    intro j u hu
    obtain⟨h1,h2⟩:=e0.out j u hu
    rw [← h1]
    exact ((Below.refl w.heap.size w).alloc (Nat.le_refl _) _).cell (by rw [show (x.add j).block=x.block by unfold Addr.add;split<;>rfl];exact h2)
   case c2=>exact Zah Z0k l
   case c3=>unfold maxLen;omega
   case c4=>omega
   case c5=>simp
   intro v' w2 c0 b0 _
   have ho:ownG Z0k w2 w.heap.size 136 v' l:=c0
   have g0:Below w.heap.size w w2:=((Below.refl _ w).alloc (Nat.le_refl _) _).grown b0 (by simp) (fun k hk=>by simp [Value.ownBlock] at hk;omega)
   clear c0 b0;go_wp2
   go_ret
   exact⟨_,rfl,ho,g0⟩
theorem Z8j (b:Nat) (td:Td) (F:Nat→Prop) (w:World) (h:rqO w F b td) (hB:td.length≤1000000000) :
  Calls Tryz.prog 85 #[.pointer (some ⟨b,0,none⟩)] w fun r w'=>∃ v',r=.returned v'∧ownG Z0k w' w.heap.size 136 v' td∧Below w.heap.size w w':=by
 obtain⟨hF,v,hb,ho,_⟩:=h
 have c0:w.cell? ⟨b,0,none⟩=some v:=Z00 hb 0
 have hl:=Z04 hb
 have hr:=hd_ (ho.rd Z0k)
 obtain⟨a,c,rfl⟩:=hr.out.len
 clear hb ho
 go_enter Tryz.func85,Tryz.ntmps85
 go_wp2_with fail
 refine (Zcw _ td _ hr.out hB).mono ?_
 rintro r w1 ⟨v',rfl,ho,hb⟩;replace ho:=hd_ ho;replace hb:=hd_ hb;go_wp2
 go_ret
 exact⟨_,rfl,ho.out,hb.out⟩
end
end Go.Proofs.YtbonjbokofkafaaGreat
