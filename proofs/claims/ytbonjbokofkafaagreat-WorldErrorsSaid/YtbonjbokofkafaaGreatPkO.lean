/- Lemmas of the proof: PkO. -/
import Derived.Test.YtbonjbokofkafaaGreatPkM
namespace Go.Proofs.YtbonjbokofkafaaGreat
set_option linter.unusedVariables false
set_option maxRecDepth 100000
set_option maxHeartbeats 64000000
section
open Go.RowKit
theorem Zcv {α:Type} (S:Shp α) {w:World} {b off:Nat} {l:List α} (h:∀ j (h:j<l.length),atG S w b (off+j*S.size) l[j]) :
  ∀ j u,(Z1h S l)[j]?=some u→w.cell? ((⟨b,off,none⟩:Addr).add j)=some u:=by
 intro j u hu
 have hp:=S.pos
 have hj:j<l.length*S.size:=by
  have:=(List.getElem?_eq_some_iff.1 hu).1
  rw [Z2u] at this;exact this
 have e:(⟨b,off,none⟩:Addr).add j=⟨b,off+j,none⟩:=by
  unfold Addr.add;split
  ·next h=>subst h;rfl
  ·rfl
 rw [e]
 have hq:j / S.size<l.length:=Nat.div_lt_of_lt_mul (by rw [Nat.mul_comm];exact hj)
 have hm:j % S.size<S.size:=Nat.mod_lt _ hp
 have hdm:j / S.size*S.size+j % S.size=j:=by rw [Nat.mul_comm];exact Nat.div_add_mod j S.size
 have hg:=Z3d S l (j / S.size) hq (j % S.size) hm
 rw [hdm,hu] at hg
 have hc:=h (j / S.size) hq (j % S.size) u hg.symm
 rw [Nat.add_assoc,hdm] at hc
 exact hc
theorem infoTold:(Tryz.prog.info? 136).map (fun i=>(i.zero,i.size,i.bytes))=some (some (.agg #[.int .i64 0, .int .i64 0, .int .i64 0, .int .i64 0, .int .i64 0, .int .i64 0, .int .i64 0, .string ByteArray.empty]),8,72):=by kernel_rfl
theorem Zcw (v:Value) (l:Td) (w:World) (hr:rdS 8 (atG Z0k) w v l) (hB:l.length≤1000000000) :
  Calls Tryz.prog 149 #[v] w fun r w'=>∃ v',r=.returned v'∧ownG Z0k w' w.heap.size 136 v' l∧Below w.heap.size w w':=by
 obtain⟨i0,hi,hz0,hz1,hz2⟩:=info_parts infoTold
 obtain⟨a,cap,rfl,hm,hM,ha⟩:=hr
 unfold maxLen at hM
 cases a with
 | none=>
   have hl:l=[]:=by
    cases l with
    | nil=>rfl
    | cons x l=>obtain⟨_,_,h,_⟩:=ha (by simp);cases h
   subst hl
   have hnil:=fun (w:World)=>Lib.run_eql_slice_nil (P:=Tryz.prog) w 34 136 none 0 cap 0 0 Tryz.underlying34
   clear ha
   go_enter Tryz.func149,Tryz.ntmps149
   go_wp2
   go_ret
   exact⟨_,rfl,Z12 _ _ _ _,Below.refl _ _⟩
 | some x=>
   have hfc:∀ j u,(Z1h Z0k l)[j]?=some u→w.cell? (x.add j)=some u∧x.block<w.heap.size:=by
    intro j u hu
    have hl:0<l.length:=by
     cases l with
     | nil=>simp [Z1h] at hu
     | cons x l=>simp
    obtain⟨b,off,e,hc⟩:=ha hl
    injection e with e
    subst e
    exact⟨Zcv Z0k hc j u hu,(hc 0 hl).lt Z0k⟩
   replace hfc:=hd_ hfc
   clear ha
   have hfl:=hd_ (show (Z1h Z0k l).length=l.length*8 from Z2u Z0k l)
   have hmade:=World.ownsRow_made (base:=w.heap.size) (e:=136) (size:=8) w #[] 0 (Nat.le_refl _) (Nat.zero_le _) rfl
   replace hmade:=hd_ hmade
   have hnil:=fun (w:World)=>Lib.run_eql_slice_nil (P:=Tryz.prog) w 34 136 (some x) l.length cap 0 0 Tryz.underlying34
   go_enter Tryz.func149,Tryz.ntmps149
   go_wp2_with (first
    | (at_builtin;refine wpList_append_own _ rfl _ _ 34 rfl w.heap.size 136 i0 (.agg #[.int .i64 0, .int .i64 0, .int .i64 0, .int .i64 0, .int .i64 0, .int .i64 0, .int .i64 0, .string ByteArray.empty]) 8 72 Tryz.underlying34 hi hz0 hz1 hz2 rfl (by decide) _ _ _ rfl hmade.out x l.length cap (Z1h Z0k l) rfl hfl.out ?c1 ?c2 ?c3 ?c4 ?c5 ?_))
   case c1=>
    intro j u hu
    obtain⟨h1,h2⟩:=hfc.out j u hu
    rw [← h1]
    exact ((Below.refl w.heap.size w).alloc (Nat.le_refl _) _).cell (by rw [show (x.add j).block=x.block by unfold Addr.add;split<;>rfl];exact h2)
   case c2=>exact Zah Z0k l
   case c3=>unfold maxLen;omega
   case c4=>omega
   case c5=>simp
   intro v' w2 hown' hgrow _
   have ho:ownG Z0k w2 w.heap.size 136 v' l:=hown'
   have hb2:Below w.heap.size w w2:=((Below.refl _ w).alloc (Nat.le_refl _) _).grown hgrow (by simp) (fun k hk=>by simp [Value.ownBlock] at hk;omega)
   clear hown' hgrow
   go_wp2
   go_ret
   exact⟨_,rfl,ho,hb2⟩
theorem Z8j (b:Nat) (td:Td) (F:Nat→Prop) (w:World) (h:rqO w F b td) (hB:td.length≤1000000000) :
  Calls Tryz.prog 85 #[.pointer (some ⟨b,0,none⟩)] w fun r w'=>∃ v',r=.returned v'∧ownG Z0k w' w.heap.size 136 v' td∧Below w.heap.size w w':=by
 obtain⟨hF,v,hb,ho,_⟩:=h
 have c0:w.cell? ⟨b,0,none⟩=some v:=Z00 hb 0
 have hl:=Z04 hb
 have hr:=hd_ (ho.rd Z0k)
 obtain⟨a,c,rfl⟩:=hr.out.len
 clear hb ho
 go_enter Tryz.func85,Tryz.ntmps85
 go_wp2_with fail
 refine (Zcw _ td _ hr.out hB).mono ?_
 rintro r w1 ⟨v',rfl,ho,hb⟩
 replace ho:=hd_ ho
 replace hb:=hd_ hb
 go_wp2
 go_ret
 exact⟨_,rfl,ho.out,hb.out⟩
section
variable {own:Nat→Nat} {w0 w:World} {b dk:Nat} {s:Nd}
theorem pxTold (h:PX own w0 w b dk s) (hB:s.td.length≤1000000000):Calls Tryz.prog 32 #[Z09 b] w fun r w'=>∃ v',r=.returned v'∧ownG Z0k w' w.heap.size 136 v' s.td∧Below w.heap.size w w':=by
 obtain⟨a,hN,rfl,rfl,hod,hov⟩:=h.nd
 have c14:w.cell? ⟨a.b,14,none⟩=some (Z09 a.r):=hN.c 14
 have hl:=hN.lt
 have hT:=hd_ (Z8j a.r s.td _ w hN.r.rq hB)
 clear h hN
 go_enter Tryz.func32,Tryz.ntmps32
 go_wp2_with fail
 refine hT.out.mono ?_
 rintro r w1 ⟨v',rfl,ho,hb⟩
 replace ho:=hd_ ho
 replace hb:=hd_ hb
 go_wp2
 go_ret
 exact⟨_,rfl,ho.out,hb.out⟩
theorem pxLog (h:PX own w0 w b dk s) (hB:s.L.length≤1000000):Calls Tryz.prog 30 #[Z09 b] w fun r w'=>∃ v',r=.returned v'∧ownE w' w.heap.size 134 v' s.L∧Below w.heap.size w w':=by
 obtain⟨a,hN,rfl,rfl,hod,hov⟩:=h.nd
 have c9:w.cell? ⟨a.b,9,none⟩=some (Z09 a.l):=hN.c 9
 have hl:=hN.lt
 have hT:=Z19 a.l s.L 0 w hN.r.lg.rd hB
 rw [Z9f] at hT
 replace hT:=hd_ hT
 clear h hN
 go_enter Tryz.func30,Tryz.ntmps30
 go_wp2_with fail
 refine hT.out.mono ?_
 rintro r w1 ⟨v',rfl,ho,hb⟩
 replace ho:=hd_ ho
 replace hb:=hd_ hb
 go_wp2
 go_ret
 exact⟨_,rfl,ho.out,hb.out⟩
end
end
end Go.Proofs.YtbonjbokofkafaaGreat
