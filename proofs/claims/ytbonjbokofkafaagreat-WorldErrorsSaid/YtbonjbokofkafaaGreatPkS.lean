/- Lemmas of the proof: PkS. -/
import Derived.Test.YtbonjbokofkafaaGreatPkH
import Derived.Test.YtbonjbokofkafaaGreatPkA
import Derived.Test.YtbonjbokofkafaaGreatPkR
import Derived.ArgAppend
import Derived.Test.YtbonjbokofkafaaGreatPkB
import Derived.Test.YtbonjbokofkafaaGreatPkI
import Derived.Test.YtbonjbokofkafaaGreatPkF
import Derived.Test.YtbonjbokofkafaaGreatPkK
import Derived.Test.YtbonjbokofkafaaGreatPkE
namespace Go.Proofs.YtbonjbokofkafaaGreat
set_option linter.unusedVariables false
set_option maxRecDepth 100000
set_option maxHeartbeats 64000000
section
open Go.RowKit
theorem Zj2 {l:List (Int × Int)} {num:Int} {k:Nat} (hk:k<l.length) (h:(l.take k).find? (fun q=>q.1==num)=none) :
  (l[k].1=num→l.find? (fun q=>q.1==num)=some l[k])∧(l[k].1≠num→(l.take (k+1)).find? (fun q=>q.1==num)=none):=by
 refine⟨fun e=>?_,fun e=>?_⟩
 ·have h1:l.find? (fun q=>q.1==num)=(l.take k++l.drop k).find? (fun q=>q.1==num):=by rw [List.take_append_drop]
  rw [h1,List.find?_append,h,List.drop_eq_getElem_cons hk,Option.none_or,List.find?_cons_of_pos]
  simpa using e
 ·rw [List.take_succ_eq_append_getElem hk,List.find?_append,h]
  simp [e]
theorem pfO.ne {w:World} {F:Nat→Prop} {b:Nat} {p:Pf} {v:Value} (hb:w.heap[b]?=some (.cells #[.int .i64 p.num,v, .bool p.has, .int .i64 p.bn, .int .i64 p.bc, .int .i64 p.com] 207 (0,0))) (hr:rowO Z99 w 205 v p.asked):∀ k,v.ownBlock=some k→k≠b:=by
 rintro k hk rfl
 rcases hr with ⟨rfl,_⟩ | ⟨g,off,cap,cur,rfl,hg,_⟩
 ·cases hk
 ·cases hk
  rw [hb] at hg
  injection hg with hg
  injection hg with h1 h2
  cases h2
theorem Zj3 (b:Nat) (p:Pf) (F:Nat→Prop) (num com:Int) (w:World) (h:pfO w F b p) :
  Calls Tryz.prog 168 #[.pointer (some ⟨b,0,none⟩), .int .i64 num, .int .i64 com] w fun r w'=>(∃ bb,r=.returned (.bool bb))∧pfO w' F b (p.get num com)∧Chg F w w':=by
 have h0:=h
 obtain⟨hFb,v,hb,hv,hr⟩:=h
 have hne:=hd_ (pfO.ne (F:=F) hb hr)
 have c1:w.cell? ⟨b,1,none⟩=some v:=Z00 hb 1
 have c2:w.cell? ⟨b,2,none⟩=some (.bool p.has):=Z00 hb 2
 have c3:w.cell? ⟨b,3,none⟩=some (.int .i64 p.bn):=Z00 hb 3
 have hlt:=Z04 hb
 have hrr:=hd_ hr
 obtain⟨a,cap,rfl,hm,hM,ha⟩:=hr.rd
 unfold maxLen at hM
 replace ha:=hd_ ha
 replace hb:=hd_ hb
 replace hv:=hd_ hv
 replace h0:=hd_ h0
 have hg:p.get num com=if p.has&&decide (num≤p.bn) then p else match p.asked.find? (fun q=>q.1==num) with | some q=>{ p with has:=true,bn:=q.1,bc:=q.2,com:=com } | none=>p:=rfl
 obtain⟨ph,hph⟩:∃ ph,p.has=ph:=⟨_,rfl⟩
 rw [hph] at c2 hg
 by_cases hc:ph=true∧num≤p.bn
 ·obtain⟨rfl,hc2⟩:=hc
  have e:p.get num com=p:=by rw [hg,if_pos (by simpa using hc2)]
  rw [e]
  replace e:=hd_ e
  replace hg:=hd_ hg
  replace hph:=hd_ hph
  clear hr
  go_enter Tryz.func168,Tryz.ntmps168
  go_wp2
  go_ret
  exact⟨⟨_,rfl⟩,h0.out,Chg.refl _ _⟩
 have e:p.get num com=match p.asked.find? (fun q=>q.1==num) with | some q=>{ p with has:=true,bn:=q.1,bc:=q.2,com:=com } | none=>p:=by
  rw [hg,if_neg (by simp only [Bool.and_eq_true,decide_eq_true_eq];exact hc)]
 obtain⟨R,hR⟩:∃ R,R=p.get num com:=⟨_,rfl⟩
 rw [← hR]
 rw [← hR] at e
 clear hg hr
 replace e:=hd_ e
 replace hR:=hd_ hR
 replace hph:=hd_ hph
 obtain⟨b2,hb2⟩:∃ c,decide (num≤p.bn)=c:=⟨_,rfl⟩
 have hgo:(ph&&b2)=false:=by
  rw [← hb2]
  cases ph
  ·rfl
  ·simp only [Bool.true_and,decide_eq_false_iff_not]
   exact fun h=>hc ⟨rfl,h⟩
 clear hc
 replace hgo:=hd_ hgo
 go_enter Tryz.func168,Tryz.ntmps168
 go_upto_region 1 with (fail)
 go_cut [25] (fun z wx=>z=.bool (ph&&b2)∧w=wx)
 case first=>
  cases ph
  ·go_wp2_with fail
   go_meet
   exact⟨rfl,rfl⟩
  ·go_wp2_with fail
   go_meet
   exact⟨by rw [← hb2];simp,rfl⟩
 case rest=>
  obtain⟨rfl,hwx⟩:=hcut
  rename World=>wx
  subst hwx
  rw [hgo.out]
  replace hb2:=hd_ hb2
  clear c2 c3
  go_wp2
  go_loopw [31,8] (fun i _ wr=>∃ k:Nat,k≤p.asked.length∧i=.int .i64 k∧(p.asked.take k).find? (fun q=>q.1==num)=none∧Below w.heap.size w wr) (fun i _ _=>p.asked.length-(intOf i).toNat)
  case atStart=>exact⟨0,Nat.zero_le _,rfl,rfl,Below.refl _ _⟩
  case round=>
   obtain⟨k,hk,rfl,hno,hbel⟩:=hrel
   replace hno:=hd_ hno
   by_cases hlt2:k<p.asked.length
   ·obtain⟨g,off,rfl,hc⟩:=ha.out (by omega)
    have hck:=(hc k hlt2).grow Z99 w wr g _ _ hbel
    obtain⟨f1,f2⟩:=Zj2 hlt2 hno.out
    obtain⟨x,hx⟩:∃ x,x=p.asked[k]:=⟨_,rfl⟩
    rw [← hx] at hck f1 f2
    replace hx:=hd_ hx
    have d0:wr.cell? ⟨g,off+k*2,none⟩=some (.int .i64 x.1):=hck 0 _ rfl
    have d1:wr.cell? ⟨g,off+k*2+1,none⟩=some (.int .i64 x.2):=hck 1 _ rfl
    obtain⟨W1,hW1⟩:∃ W,W=wr.alloc (.cells #[.int .i64 x.1, .int .i64 x.2] 205):=⟨_,rfl⟩
    have hB1:Below wr.heap.size wr W1:=hW1 ▸ (Below.refl _ _).alloc (Nat.le_refl _) _
    obtain⟨nb,hnb⟩:∃ nb,nb=wr.heap.size:=⟨_,rfl⟩
    have hbx:W1.heap[nb]?=some (.cells #[.int .i64 x.1, .int .i64 x.2] 205 (0,0)):=hW1 ▸ hnb ▸ Z0a _ _
    have hbel1:=hd_ (hbel.trans (hB1.mono hbel.size))
    have y0:=Z00 hbx 0
    have y1:=Z00 hbx 1
    simp only [List.getElem?_toArray,List.getElem?_cons_zero,List.getElem?_cons_succ] at y0 y1
    have lbx:=Z04 hbx
    replace hbx:=hd_ hbx
    replace hbel:=hd_ hbel
    replace hB1:=hd_ hB1
    clear hc hck
    go_upto_region 6 with (fail)
    rw [← hW1,← hnb]
    replace hW1:=hd_ hW1
    replace hnb:=hd_ hnb
    clear d0 d1
    by_cases heq:x.1=num
    ·have f3:=hd_ (f1 heq)
     replace f2:=hd_ f2
     clear f1
     subst heq
     go_upto_region 7 with (fail)
     refine Z0y (Zf6 b [2,3,4,5]) (.q 0 (.q 1 (.q 2 (.q 3 (.q 4 (.q 5 (.q 6 (.l 7 (.q 8 (.q 9 (.l 10 (.q 11 (.q 12 (.l 13 .fin)))))))))))))) (by kernel_rfl) (by kernel_rfl) ?_
     intro w3 hh3 hb3
     have hb3':=Z02 hb.out (hbel1.out.trans (hb3.mono hbel1.out.size))
     have hbx3:=Z02 hbx.out hb3
     have hnbb:nb≠b:=by have:=hnb.out;have:=hbel.out.size;omega
     have k0:=Z1d (F:=Zf6 b [2,3,4,5]) (b:=w3) (g:=nb) (o:=0) (fun h=>hnbb h.1) (show w3.cell? ⟨nb,0,none⟩=some (.int .i64 x.1) from Z00 hbx3 0)
     have k1:=Z1d (F:=Zf6 b [2,3,4,5]) (b:=w3) (g:=nb) (o:=1) (fun h=>hnbb h.1) (show w3.cell? ⟨nb,1,none⟩=some (.int .i64 x.2) from Z00 hbx3 1)
     have hB3:=hbel1.out.trans (hb3.mono hbel1.out.size)
     have r3:rowO Z99 w3 205 (.slice (some ⟨g,off,none⟩) p.asked.length cap) p.asked:=hrr.out.same fun q hq hl=>hB3.block q hl
     obtain⟨W4,hW4⟩:∃ W,W=(((w3.setCell ⟨b,2,none⟩ (.bool true)).setCell ⟨b,3,none⟩ (.int .i64 x.1)).setCell ⟨b,4,none⟩ (.int .i64 x.2)).setCell ⟨b,5,none⟩ (.int .i64 com):=⟨_,rfl⟩
     have hc4:Chg (fun k=>k=b) w3 W4:=hW4 ▸ Z06 (Z06 (Z06 (Z06 (Chg.refl _ _) rfl) rfl) rfl) rfl
     have hp4:pfO W4 F b { p with has:=true,bn:=x.1,bc:=x.2,com:=com }:=⟨hFb,_,hW4 ▸ Z0d (Z0d (Z0d (Z0d hb3'))),hv.out,r3.same fun q hq hl=>hc4.block q hl (hne.out q hq)⟩
     have hC4:Chg F w W4:=(Chg.of_below hB3).more hc4 fun i e=>.inl (by rw [show i=b from e];exact hFb)
     have q2:w3.cell? ⟨b,2,none⟩=some (.bool p.has):=Z00 hb3' 2
     have q3:w3.cell? ⟨b,3,none⟩=some (.int .i64 p.bn):=Z00 hb3' 3
     have q4:w3.cell? ⟨b,4,none⟩=some (.int .i64 p.bc):=Z00 hb3' 4
     have q5:w3.cell? ⟨b,5,none⟩=some (.int .i64 p.com):=Z00 hb3' 5
     have z2:=Z03 hb3' 2
     have z3:=Z03 hb3' 3
     have z4:=Z03 hb3' 4
     have z5:=Z03 hb3' 5
     have hl3:=Z04 hb3'
     replace hp4:=hd_ hp4
     replace hC4:=hd_ hC4
     replace hb3':=hd_ hb3'
     replace hbx3:=hd_ hbx3
     replace hB3:=hd_ hB3
     replace r3:=hd_ r3
     replace hb3:=hd_ hb3
     replace hh3:=hd_ hh3
     clear hc4
     iterate 7 (refine Z6l rfl ?_;go_big_quiet_step (fail);refine wpQuiet_nil ?_)
     refine Z4j rfl (by kernel_rfl) ?_
     intro K1 hK
     go_simp
     refine hK _ _ ((ChgC.refl _ _).set ⟨rfl,by simp⟩) ?_
     clear hK K1
     iterate 2 (refine Z6l rfl ?_;go_big_quiet_step (fail);refine wpQuiet_nil ?_)
     refine Z4j rfl (by kernel_rfl) ?_
     intro K1 hK
     go_simp
     refine hK _ _ ((((ChgC.refl _ _).set ⟨rfl,by simp⟩).set ⟨rfl,by simp⟩).set ⟨rfl,by simp⟩) ?_
     clear hK K1
     iterate 2 (refine Z6l rfl ?_;go_big_quiet_step (fail);refine wpQuiet_nil ?_)
     refine Z4j rfl (by kernel_rfl) ?_
     intro K1 hK
     go_simp
     refine hK _ _ (((((ChgC.refl _ _).set ⟨rfl,by simp⟩).set ⟨rfl,by simp⟩).set ⟨rfl,by simp⟩).set ⟨rfl,by simp⟩) ?_
     clear hK K1
     refine Z0c ?_
     rw [← hW4]
     replace hW4:=hd_ hW4
     clear q2 q3 q4 q5 z2 z3 z4 z5 k0 k1
     go_wp2
     go_ret
     rw [e.out,f3.out]
     exact⟨⟨_,rfl⟩,hp4.out,hC4.out⟩
    ·have f3:=hd_ (f2 heq)
     have heq':(x.1==num)=false:=by simpa using heq
     replace heq:=hd_ heq
     clear f1 f2
     go_wp2
     go_roundw
     case rel=>exact⟨k+1,by omega,by go_num,f3.out,hbel1.out⟩
     case measure=>simp [intOf];omega
   ·obtain rfl:k=p.asked.length:=by omega
    rw [List.take_length] at hno
    replace hbel:=hd_ hbel
    go_wp2
    go_ret
    rw [e.out,hno.out]
    exact⟨⟨_,rfl⟩,h0.out.chg (.of_below (F:=fun _=>False) hbel.out) (fun _ _ h=>h), .of_below hbel.out⟩
end
section
open Go.RowKit
theorem Zeh {α:Type} {S:Shp α} {w:World} {base:Nat} {T:TypeId} {v:Value} {l:List α} (h:ownG S w base T v l):rowO S w T v l:=by
 have hr:=h.rd S
 obtain⟨hl,⟨rfl,h0⟩ | ⟨g,cap,cur,rfl,hb,hg,hn,hc,hs,ht⟩⟩:=h
 ·exact .inl ⟨rfl,List.eq_nil_of_length_eq_zero h0⟩
 ·obtain⟨a,cap',e,_,_,hx⟩:=hr
  injection e with e1 e2 e3
  subst e1 e3
  refine .inr ⟨g,0,cap,cur,rfl,hg,hn,hc,by rw [Nat.zero_add];exact hs,fun j hj=>?_⟩
  obtain⟨b,off,e,hh⟩:=hx (by omega)
  injection e with e
  injection e with e1 e2
  subst e1 e2
  exact hh j hj
theorem Zd2 {g:Nat} {E:TypeId} {w:World} {cur:Array Value} (h:w.heap[g]?=some (.cells cur E (0,0))) (o:Nat) (vs:List Value) (hs:o+vs.length≤cur.size) :
  ∃ cur',(w.setCells g o vs).heap[g]?=some (.cells cur' E (0,0))∧cur'.size=cur.size∧(∀ q,q<o→cur'[q]?=cur[q]?)∧∀ j u,vs[j]?=some u→cur'[o+j]?=some u:=by
 obtain⟨⟨cur',h1,h2,h3⟩,_⟩:=Z1v (E:=E) vs o w cur h
 refine⟨cur',h1,h2,h3,fun j u hu=>?_⟩
 have hj:j<vs.length:=(List.getElem?_eq_some_iff.1 hu).1
 have:=World.cell?_setCells_in g vs o w (fun q hq=>by rw [Z00 h,Array.getElem?_eq_getElem (by omega)];rfl) j hj
 rw [Z00 h1] at this
 rw [this]
 exact hu ▸ (List.getElem?_eq_getElem hj).symm
section
variable {P:Program} {α:Type}
theorem run_rowO (w:World) (S:Shp α) (t ty:TypeId) (e:TypeId) (i:TypeInfo) (z:Value) (bytes:Nat) (ht:P.underlying t=some (.slice e)) (hi:P.info? e=some i) (hz:i.zero=some z)
  (hsize:i.size=S.size) (hby:i.bytes=bytes) (hzs:z.cells.size=S.size)
  (v:Value) (l:List α) (h:rowO S w e v l) (x:α) (a:Addr) (c:Nat) (hx:∀ j u,(S.cells x)[j]?=some u→w.cell? (a.add j)=some u)
  (h63:l.length+1≤maxLen) (hbytes:(l.length+1)*bytes≤140737488355328) :
  ∃ v' w',(Builtin.append_ #[t,t] ty #[v, .slice (some a) 1 c]).run P w=.ok v' w'∧rowO S w' e v' (l++[x])∧Chg (fun k=>v.ownBlock=some k) w w'∧∀ k,v'.ownBlock=some k→v.ownBlock=some k∨w.heap.size≤k:=by
 have hp:=S.pos
 have h1:∀ u ∈ S.cells x,u.oneCell'=true:=S.one x
 rcases h with ⟨rfl,rfl⟩ | ⟨g,off,cap,cur,rfl,hg,hn,hM,hs,hc⟩
 ·obtain⟨v',w',hrun,r1,r2,_⟩:=run_append_own (P:=P) w w.heap.size t ty e i z S.size bytes ht hi hz hsize hby hzs hp (.slice none 0 0) 0 [] (World.ownsRow_nil w _ e S.size) a 1 c (S.cells x) (by rw [S.len,Nat.one_mul]) hx h1 h63 hbytes (Nat.le_refl _)
  have ho:ownG S w' w.heap.size e v' ([]++[x]):=by
   unfold ownG Z1h
   simpa using r1
  refine⟨v',w',hrun,Zeh ho,⟨r2.os,r2.tape,r2.output,r2.size,fun k hk hF=>r2.block k hk (fun e=>by cases e)⟩,fun k hk=>.inr (ho.lt S k hk).1⟩
 ·by_cases hr:l.length+1≤cap
  ·have hsz:off+(l.length+1)*S.size≤cur.size:=by rw [hs];exact Nat.add_le_add_left (Nat.mul_le_mul_right _ hr) _
   rw [Nat.add_mul,Nat.one_mul] at hsz
   have hrun:=run_append_room_cells (P:=P) w t ty e i ht hi g off l.length cap a 1 c (S.cells x) (by rw [S.len,Nat.one_mul,hsize]) hx h1 hr
    (fun j hj=>by rw [S.len] at hj;rw [hsize,Z00 hg,Array.getElem?_eq_getElem (by omega)];rfl) (fun j hj=>Z03 hg _)
   rw [hsize] at hrun
   obtain⟨cur',k1,k2,k3,k4⟩:=Zd2 hg (off+l.length*S.size) (S.cells x) (by rw [S.len];omega)
   have hch:=(Z1v (E:=e) (S.cells x) (off+l.length*S.size) w cur hg).2
   refine⟨_,_,hrun, .inr ⟨g,off,cap,cur',by rw [List.length_append];rfl,k1,by rw [List.length_append];exact hr,hM,by rw [k2,hs],fun j hj=>?_⟩,hch.mono fun k _ e=>by rw [show k=g from e];rfl,fun k hk=>.inl hk⟩
   rw [List.length_append,List.length_singleton] at hj
   intro q u hu
   rw [Z00 k1]
   have hq:q<S.size:=by
    have:=(List.getElem?_eq_some_iff.1 hu).1
    rw [S.len] at this;exact this
   by_cases hjl:j<l.length
   ·rw [List.getElem_append_left hjl] at hu
    have:=hc j hjl q u hu
    rw [Z00 hg] at this
    have h9:(j+1)*S.size≤l.length*S.size:=Nat.mul_le_mul_right _ hjl
    rw [Nat.add_mul,Nat.one_mul] at h9
    rw [k3 _ (by omega)]
    exact this
   ·obtain rfl:j=l.length:=by omega
    rw [List.getElem_append_right (Nat.le_refl _)] at hu
    simp only [Nat.sub_self,List.getElem_cons_zero] at hu
    exact k4 q u hu
  ·obtain⟨v',w',hrun,r1,r2⟩:=run_append_arg_grows (P:=P) w t ty e i z S.size bytes ht hi hz hsize hby hzs hp ⟨g,off,none⟩ l.length cap (Z1h S l) (Z2u S l) (fun j u hj=>by
     have e0:(⟨g,off,none⟩:Addr).add j=⟨g,off+j,none⟩:=Addr.add_lit ..
     rw [e0]
     have hjl:j<l.length*S.size:=by
      have:=(List.getElem?_eq_some_iff.1 hj).1
      rw [Z2u] at this;exact this
     have hq:j / S.size<l.length:=Nat.div_lt_of_lt_mul (by rw [Nat.mul_comm];exact hjl)
     have hm:j % S.size<S.size:=Nat.mod_lt _ hp
     have hdm:j / S.size*S.size+j % S.size=j:=by rw [Nat.mul_comm];exact Nat.div_add_mod j S.size
     have hgt:=Z3d S l (j / S.size) hq (j % S.size) hm
     rw [hdm,hj] at hgt
     have:=hc (j / S.size) hq (j % S.size) u hgt.symm
     rw [Nat.add_assoc,hdm] at this
     exact this) a 1 c (S.cells x) (by rw [S.len,Nat.one_mul]) hx (by omega) h63 hbytes
   have ho:ownG S w' w.heap.size e v' (l++[x]):=by
    unfold ownG
    rw [List.length_append,Z1u]
    exact r1
   refine⟨v',w',hrun,Zeh ho,⟨r2.os,r2.tape,r2.output,r2.size,fun k hk hF=>r2.block k hk (fun e=>by cases e)⟩,fun k hk=>.inr (ho.lt S k hk).1⟩
theorem wp_rowO (w:World) {o:Oper} {a:Act} {K:Act→World→Prop} {Q:Exit→Act→World→Prop} (S:Shp α) (s x:Operand) (t:TypeId)
  (ho:o.op=.call { callee:=.builtin .append,args:=#[s,x],argTypes:=#[t,t] })
  (e:TypeId) (i:TypeInfo) (z:Value) (bytes:Nat) (ht:P.underlying t=some (.slice e)) (hi:P.info? e=some i) (hz:i.zero=some z)
  (hsize:i.size=S.size) (hby:i.bytes=bytes) (hzs:z.cells.size=S.size)
  (v:Value) (l:List α) (hs:a.eval s=v) (hr:rowO S w e v l) (y:α) (ad:Addr) (c:Nat) (hx:a.eval x=.slice (some ad) 1 c) (hy:∀ j u,(S.cells y)[j]?=some u→w.cell? (ad.add j)=some u)
  (h63:l.length+1≤maxLen) (hbytes:(l.length+1)*bytes≤140737488355328)
  (h:∀ v' w',rowO S w' e v' (l++[y])→Chg (fun k=>v.ownBlock=some k) w w'→(∀ k,v'.ownBlock=some k→v.ownBlock=some k∨w.heap.size≤k)→K (a.put o.dst v') w'):o.wp P a w K Q:=by
 obtain⟨v',w',hr,h2,h3,h4⟩:=run_rowO (P:=P) w S t o.type e i z bytes ht hi hz hsize hby hzs v l hr y ad c hy h63 hbytes
 unfold Oper.wp execOp
 simp only [ho,resolve,invoke,builtin,Sem.run_bind,Sem.run_pure,Result.andThen_ok,List.map_toArray,List.map_cons,List.map_nil,hs,hx,hr]
 exact h v' w' h2 h3 h4
end
theorem infoPq:(Tryz.prog.info? 205).map (fun i=>(i.zero,i.size,i.bytes))=some (some (.agg #[.int .i64 0, .int .i64 0]),2,16):=by kernel_rfl
end
section
open Go.RowKit
theorem Zj4 (b:Nat) (p:Pf) (F:Nat→Prop) (clock:Int) (w:World) (h:pfO w F b p) (hq0:0≤p.num) (hq1:p.num<4611686018427387904) (hl:p.asked.length≤1000000) :
  Calls Tryz.prog 133 #[.pointer (some ⟨b,0,none⟩), .int .i64 clock] w fun r w'=>r=.returned (.int .i64 (p.num+1))∧(∃ F',pfO w' F' b (p.ask clock)∧∀ k,F' k→F k∨w.heap.size≤k∧k<w'.heap.size)∧Chg F w w':=by
 obtain⟨i0,hi,hz0,hz1,hz2⟩:=info_parts infoPq
 replace hi:=hd_ hi
 obtain⟨hFb,v,hb,hv,hr⟩:=h
 have hne:=pfO.ne (F:=F) hb hr
 obtain⟨n,as_,hs,bn,bc,co⟩:=p
 dsimp only at *
 obtain⟨W1,hW1⟩:∃ W1,W1=w.setCell ⟨b,0,none⟩ (.int .i64 (n+1)):=⟨_,rfl⟩
 have hc1:Chg (fun k=>k=b) w W1:=hW1 ▸ Z06 (Chg.refl _ _) rfl
 have hb1:W1.heap[b]?=some (.cells #[.int .i64 (n+1),v, .bool hs, .int .i64 bn, .int .i64 bc, .int .i64 co] 207 (0,0)):=hW1 ▸ Z0d hb
 have hr1:rowO Z99 W1 205 v as_:=hr.same fun q hq hlt=>hc1.block q hlt (hne q hq)
 have c0:w.cell? ⟨b,0,none⟩=some (.int .i64 n):=Z00 hb 0
 have z0:=Z03 hb 0
 have lb:=Z04 hb
 have hneb:¬ v.ownBlock=some b:=fun e=>hne b e rfl
 have hvl:∃ ad cp,v=.slice ad as_.length cp:=hr.rd.len
 replace hne:=hd_ hne
 replace hb:=hd_ hb
 replace hr:=hd_ hr
 replace hc1:=hd_ hc1
 replace hb1:=hd_ hb1
 replace hr1:=hd_ hr1
 replace hv:=hd_ hv
 replace hvl:=hd_ hvl
 go_enter Tryz.func133,Tryz.ntmps133
 go_upto_region 4 with (fail)
 rw [← hW1]
 replace hW1:=hd_ hW1
 clear c0 z0 lb
 refine Z05 (fun c=>v.ownBlock=some c) (.q 0 (.q 1 (.q 2 (.q 3 (.q 4 (.q 5 (.q 6 (.q 7 (.q 8 (.q 9 (.l 10 (.l 11 (.l 12 (.q 13 (.q 14 (.cut (.l 15 .fin))))))))))))))))) (by kernel_rfl) (by kernel_rfl) ?_
 intro w2 hh2 hb2
 have hbb2:=Z02 hb1.out hb2
 have u0:=Z01 (F:=fun c=>v.ownBlock=some c) (b:=w2) hneb (show w2.cell? ⟨b,0,none⟩=some (.int .i64 (n+1)) from Z00 hbb2 0)
 have u1:=Z01 (F:=fun c=>v.ownBlock=some c) (b:=w2) hneb (show w2.cell? ⟨b,1,none⟩=some v from Z00 hbb2 1)
 have hr2:=hd_ (hr1.out.same fun q hq hlt=>hb2.block q hlt)
 have hC2:=hd_ (hc1.out.on hb2)
 replace hbb2:=hd_ hbb2
 replace hh2:=hd_ hh2
 replace hb2:=hd_ hb2
 iterate 10 (refine Z0n rfl ?_;go_big_quiet_step (fail);refine wpQuiet_nil ?_)
 clear u0 u1
 refine Z0j rfl (by kernel_rfl) ?_
 intro K1 hK
 go_simp
 refine hK _ _ (Chg.refl _ _) ?_
 clear hK K1
 refine Z0j rfl (by kernel_rfl) ?_
 intro K1 hK
 go_simp
 obtain⟨W3,hW3⟩:∃ W3,W3=w2.alloc (.cells #[.int .i64 (n+1), .int .i64 clock] 205):=⟨_,rfl⟩
 have hx3:W3.heap[w2.heap.size]?=some (.cells #[.int .i64 (n+1), .int .i64 clock] 205 (0,0)):=hW3 ▸ Z0a _ _
 have hB3:Below w2.heap.size w2 W3:=hW3 ▸ (Below.refl _ _).alloc (Nat.le_refl _) _
 have hr3:=hd_ (hr2.out.same fun q hq hlt=>hB3.block q hlt)
 obtain⟨nc,hnc⟩:∃ nc,nc=w2.heap.size:=⟨_,rfl⟩
 rw [← hW3,← hnc]
 rw [← hnc] at hx3
 have hy:∀ j u,(Z99.cells (n+1,clock))[j]?=some u→W3.cell? ((⟨nc,0,none⟩:Addr).add j)=some u:=fun j u hu=>by
  have e:(⟨nc,0,none⟩:Addr).add j=⟨nc,j,none⟩:=by rw [Addr.add_lit,Nat.zero_add]
  rw [e,Z00 hx3]
  simpa [Z99] using hu
 replace hW3:=hd_ hW3
 replace hnc:=hd_ hnc
 replace hx3:=hd_ hx3
 replace hy:=hd_ hy
 refine hK _ _ (Chg.of_below hB3) ?_
 clear hK K1
 have hi':=hi.out
 refine Z0j rfl (by kernel_rfl) ?_
 intro K1 hK
 refine wp_rowO _ Z99 (.tmp 18) (.tmp 25) 203 rfl 205 i0 (.agg #[.int .i64 0, .int .i64 0]) 16 Tryz.underlying203 hi' hz0 hz1 hz2 rfl v as_ rfl hr3.out (n+1,clock) ⟨nc,0,none⟩ 1 rfl hy.out (by unfold maxLen;omega) (by omega) ?_
 intro v4 w4 hr4 hc4 hat4
 obtain⟨ad4,cp4,hv4⟩:=hr4.rd.len
 subst hv4
 have hbb4:=Z0g (Z02 hbb2.out hB3) hc4 hneb
 have hC4:Chg (fun k=>k=b∨v.ownBlock=some k) w w4:=((hC2.out.mono fun k _ e=>.inl e).on hB3).more hc4 fun i e=>.inl (.inr e)
 have hneb4:∀ k,(Value.slice ad4 (as_++[(n+1,clock)]).length cp4).ownBlock=some k→k≠b:=fun k hk e=>by
  rcases hat4 k hk with h | h
  ·exact hneb (by rw [h,e])
  ·have:=Z04 (Z02 hbb2.out hB3);omega
 have q1:w4.cell? ⟨b,1,none⟩=some v:=Z00 hbb4 1
 have z1:=Z03 hbb4 1
 have lb4:=Z04 hbb4
 have hcl:Chg (fun c=>v.ownBlock=some c) w2 w4:=(Chg.of_below hB3).more hc4 fun i e=>.inl e
 replace hbb4:=hd_ hbb4
 replace hr4:=hd_ hr4
 replace hC4:=hd_ hC4
 replace hneb4:=hd_ hneb4
 replace hat4:=hd_ hat4
 obtain⟨adv,cpv,hvv⟩:=hvl.out
 rw [hvv] at q1
 replace hvv:=hd_ hvv
 clear hi' hc4
 go_simp
 refine hK _ _ hcl ?_
 clear hK K1 hcl
 iterate 2 (refine Z0n rfl ?_;go_big_quiet_step (fail);refine wpQuiet_nil ?_)
 refine Z0h Z1j ?_
 refine Z0j rfl (by kernel_rfl) ?_
 intro K1 hK
 go_simp
 refine hK _ _ (Z06 (Chg.refl _ _) trivial) ?_
 clear hK K1
 refine Z0c ?_
 obtain⟨N,hN⟩:∃ N,N=as_.length+1:=⟨_,rfl⟩
 have hN':(as_++[(n+1,clock)]).length=N:=by rw [hN,List.length_append];rfl
 have hr4':=hr4.out
 rcases hr4' with ⟨_,h0⟩ | ⟨g,off,cap,cur,hsl,hg4,hcap,hcM,hcs,hce⟩
 ·exact absurd h0 (by simp)
 injection hsl with z1 z2 z3
 subst z1 z3
 rw [hN'] at hcap
 unfold maxLen at hcM
 have hgb:g≠b:=hneb4.out g rfl
 rw [← hN]
 obtain⟨W5,hW5⟩:∃ W5,W5=w4.setCell ⟨b,1,none⟩ (.slice (some ⟨g,off,none⟩) N cp4):=⟨_,rfl⟩
 have hb5:W5.heap[b]?=some (.cells #[.int .i64 (n+1), .slice (some ⟨g,off,none⟩) N cp4, .bool hs, .int .i64 bn, .int .i64 bc, .int .i64 co] 207 (0,0)):=hW5 ▸ Z0d hbb4.out
 have hc5:Chg (fun k=>k=b) w4 W5:=hW5 ▸ Z06 (Chg.refl _ _) rfl
 have hg5:=Z0g hg4 hc5 hgb
 have hC5:Chg (fun k=>k=b∨v.ownBlock=some k) w W5:=hC4.out.more hc5 fun i e=>.inl (.inl e)
 rw [← hW5]
 replace hW5:=hd_ hW5
 replace hb5:=hd_ hb5
 replace hg5:=hd_ hg5
 replace hC5:=hd_ hC5
 replace hg4:=hd_ hg4
 replace hce:=hd_ hce
 replace hcs:=hd_ hcs
 replace hc5:=hd_ hc5
 have hNN:=hd_ hN
 have hNN':=hd_ hN'
 have hN1:1≤N:=by omega
 have hN2:N≤1000001:=by omega
 clear hN hN' q1 z1 lb4
 obtain⟨kk,hkk⟩:∃ kk,kk=N-64:=⟨_,rfl⟩
 have hk1:max 0 ((N:Int)-64)=(kk:Int):=by omega
 have hk2:kk<N:=by omega
 have hk3:¬ cp4=kk:=by omega
 have hk4:¬ kk=cp4:=by omega
 replace hkk:=hd_ hkk
 go_upto_region 5 with (fail)
 refine Z05 (fun _=>False) (.q 0 (.q 1 (.q 2 (.q 3 (.q 4 (.q 5 (.q 6 (.q 7 (.q 8 (.q 9 (.q 10 (.q 11 (.q 12 (.q 13 (.q 14 (.cut (.l 15 .fin))))))))))))))))) (by kernel_rfl) (by kernel_rfl) ?_
 intro w6 hh6 hb6
 have hbb6:=Z02 hb5.out hb6
 have u1:=Z01 (F:=fun _=>False) (b:=w6) (fun h=>h) (show w6.cell? ⟨b,1,none⟩=some (.slice (some ⟨g,off,none⟩) N cp4) from Z00 hbb6 1)
 have q1:w6.cell? ⟨b,1,none⟩=some (.slice (some ⟨g,off,none⟩) N cp4):=Z00 hbb6 1
 have z1:=Z03 hbb6 1
 have lb6:=Z04 hbb6
 replace hbb6:=hd_ hbb6
 replace hh6:=hd_ hh6
 replace hb6:=hd_ hb6
 iterate 15 (refine Z0n rfl ?_;go_big_quiet_step (fail);refine wpQuiet_nil ?_)
 clear u1
 refine Z0h Z1j ?_
 refine Z0j rfl (by kernel_rfl) ?_
 intro K1 hK
 go_simp
 refine hK _ _ (Z06 (Chg.refl _ _) trivial) ?_
 clear hK K1
 refine Z0c ?_
 obtain⟨W7,hW7⟩:∃ W7,W7=w6.setCell ⟨b,1,none⟩ (.slice (some ⟨g,off+kk*2,none⟩) (N-kk) (cp4-kk)):=⟨_,rfl⟩
 have hb7:W7.heap[b]?=some (.cells #[.int .i64 (n+1), .slice (some ⟨g,off+kk*2,none⟩) (N-kk) (cp4-kk), .bool hs, .int .i64 bn, .int .i64 bc, .int .i64 co] 207 (0,0)):=hW7 ▸ Z0d hbb6.out
 have hc7:Chg (fun k=>k=b) w6 W7:=hW7 ▸ Z06 (Chg.refl _ _) rfl
 have hg7:=Z0g (Z02 hg5.out hb6.out) hc7 hgb
 have hC7:Chg (fun k=>k=b∨v.ownBlock=some k) w W7:=(hC5.out.on hb6.out).more hc7 fun i e=>.inl (.inl e)
 have hlast:Z56 (as_++[(n+1,clock)])=(as_++[(n+1,clock)]).drop kk:=by unfold Z56;rw [hNN'.out,hkk.out]
 have hlen:(Z56 (as_++[(n+1,clock)])).length=N-kk:=by rw [hlast,List.length_drop,hNN'.out]
 have hrow:rowO Z99 W7 205 (.slice (some ⟨g,off+kk*2,none⟩) (N-kk) (cp4-kk)) (Z56 (as_++[(n+1,clock)])):=by
  refine .inr ⟨g,off+kk*2,cp4-kk,cur,by rw [hlen],hg7,by rw [hlen];omega,by unfold maxLen;omega,?_,fun j hj=>?_⟩
  ·rw [hcs.out]
   show off+cp4*2=off+kk*2+(cp4-kk)*2
   omega
  ·rw [hlen] at hj
   intro c u hu
   have hx:(Z56 (as_++[(n+1,clock)]))[j]'(by rw [hlen];exact hj)=(as_++[(n+1,clock)])[kk+j]'(by rw [hNN'.out];omega):=by
    simp only [hlast,List.getElem_drop]
   rw [hx] at hu
   have:=hce.out (kk+j) (by rw [hNN'.out];omega) c u hu
   rw [Z00 hg4.out] at this
   rw [Z00 hg7,← this]
   congr 1
   show off+kk*2+j*2+c=off+(kk+j)*2+c
   omega
 have hfin:Hid ((∃ F',pfO W7 F' b ((⟨n,as_,hs,bn,bc,co⟩:Pf).ask clock)∧∀ k,F' k→F k∨w.heap.size≤k∧k<W7.heap.size)∧Chg F w W7):=hd_ (by
  refine⟨⟨fun k=>k=b∨k=g,⟨.inl rfl,_,hb7,fun k hk=>.inr (by cases hk;rfl),hrow⟩,fun k hk=>?_⟩,hC7.mono fun k _ e=>?_⟩
  ·rcases hk with rfl | rfl
   ·exact .inl hFb
   ·rcases hat4.out k rfl with h | h
    ·exact .inl (hv.out k h)
    ·have:=hC2.out.size
     have:=hB3.size
     exact .inr ⟨by omega,Z04 hg7⟩
  ·rcases e with rfl | e
   ·exact hFb
   ·exact hv.out k e)
 have q0:W7.cell? ⟨b,0,none⟩=some (.int .i64 (n+1)):=Z00 hb7 0
 have lb7:=Z04 hb7
 rw [← hW7]
 replace hW7:=hd_ hW7
 clear hb7 hc7 hg7 hC7 hlast hlen hrow q1 z1 lb6
 go_wp2
 go_ret
 exact⟨rfl,hfin.out⟩
end
section
open Go.RowKit
abbrev ent0:Ent:=⟨0,0,0,0,0,0,ByteArray.empty⟩
theorem Z62 (b:Nat) (l:List Ent) (w:World) (hr:rdLog w b l) (hl:l.length≤1000) :
  Calls Tryz.prog 182 #[.pointer (some ⟨b,0,none⟩), .int .i64 l.length] w fun r w'=>r=.returned (.tuple #[(l.getLast?.getD ent0).val, .bool (!l.isEmpty)])∧Below w.heap.size w w':=by
 obtain⟨W,hW⟩:∃ W,W=w.alloc (.cells #[.int .i64 0, .int .i64 0, .int .i64 0, .int .i64 0, .int .i64 0, .int .i64 0, .string ⟨#[]⟩] 134):=⟨_,rfl⟩
 have hB:Below w.heap.size w W:=hW ▸ (Below.refl _ _).alloc (Nat.le_refl _) _
 obtain⟨nb,hnb⟩:∃ nb,nb=w.heap.size:=⟨_,rfl⟩
 have hx:W.heap[nb]?=some (.cells #[.int .i64 0, .int .i64 0, .int .i64 0, .int .i64 0, .int .i64 0, .int .i64 0, .string ⟨#[]⟩] 134 (0,0)):=hW ▸ hnb ▸ Z0a _ _
 have hr1:rdLog W b l:=hr.grow hB
 have hlt:=Z04 hx
 have x0:=Z00 hx 0
 have x1:=Z00 hx 1
 have x2:=Z00 hx 2
 have x3:=Z00 hx 3
 have x4:=Z00 hx 4
 have x5:=Z00 hx 5
 have x6:=Z00 hx 6
 have z0:=Z03 hx 0
 have z1:=Z03 hx 1
 have z2:=Z03 hx 2
 have z3:=Z03 hx 3
 have z4:=Z03 hx 4
 have z5:=Z03 hx 5
 have z6:=Z03 hx 6
 simp only [List.getElem?_toArray,List.getElem?_cons_zero,List.getElem?_cons_succ] at x0 x1 x2 x3 x4 x5 x6
 have hfin:∀ a0 a1 a2 a3 a4 a5 a6,Below w.heap.size w (((((((W.setCell ⟨nb,0,none⟩ a0).setCell ⟨nb,1,none⟩ a1).setCell ⟨nb,2,none⟩ a2).setCell ⟨nb,3,none⟩ a3).setCell ⟨nb,4,none⟩ a4).setCell ⟨nb,5,none⟩ a5).setCell ⟨nb,6,none⟩ a6):=fun a0 a1 a2 a3 a4 a5 a6=>
  ((((((hB.setCell (Nat.le_of_eq hnb.symm) _).setCell (Nat.le_of_eq hnb.symm) _).setCell (Nat.le_of_eq hnb.symm) _).setCell (Nat.le_of_eq hnb.symm) _).setCell (Nat.le_of_eq hnb.symm) _).setCell (Nat.le_of_eq hnb.symm) _).setCell (Nat.le_of_eq hnb.symm) _
 replace hfin:=hd_ hfin
 replace hW:=hd_ hW
 replace hnb:=hd_ hnb
 replace hB:=hd_ hB
 replace hx:=hd_ hx
 rcases Nat.eq_zero_or_pos l.length with h0 | h0
 ·have hnil:l=[]:=List.eq_nil_of_length_eq_zero h0
  subst hnil
  replace h0:=hd_ h0
  replace hr1:=hd_ hr1
  go_enter Tryz.func182,Tryz.ntmps182
  go_upto_region 1 with (fail)
  rw [← hW.out,← hnb.out]
  go_wp2
  exact bodyPost_ret (v:=.tuple #[ent0.val, .bool false]) (by simp [results,Tryz.results182,go_sem,x0,x1,x2,x3,x4,x5,x6];rfl) rfl ⟨rfl,hfin.out _ _ _ _ _ _ _⟩
 ·obtain⟨l',x,rfl⟩:∃ l' x,l=l'++[x]:=⟨l.dropLast,l.getLast (by intro e;rw [e] at h0;simp at h0),(List.dropLast_concat_getLast _).symm⟩
  have hL:((l'++[x]).getLast?.getD ent0)=x:=by simp
  have hE:(!(l'++[x]).isEmpty)=true:=by simp
  rw [hL,hE]
  clear hL hE
  obtain⟨n,hn⟩:∃ n,n=(l'++[x]).length:=⟨_,rfl⟩
  have hn2:l'.length+1=n:=by rw [hn,List.length_append];rfl
  have hLen:=hd_ (Z0m b (l'++[x]) W hr1)
  rw [← hn] at hLen h0 hl ⊢
  obtain⟨v,hv,hrv⟩:=hr1
  obtain⟨a,cap,rfl,hm,hM,ha⟩:=hrv
  rw [← hn] at hm hv
  unfold maxLen at hM
  obtain⟨g,off,rfl,hc⟩:=ha (by rw [← hn];exact h0)
  have hck:=hc l'.length (by rw [← hn];omega)
  rw [List.getElem_append_right (Nat.le_refl _)] at hck
  simp only [Nat.sub_self,List.getElem_cons_zero] at hck
  have hlv:=Z0f hv
  rw [show l'.length=n-1 by omega] at hck
  obtain⟨d0,d1,d2,d3,d4,d5,d6⟩:=hck
  have hz1:decide ((n:Int)<1)=false:=decide_eq_false (by omega)
  have hz2:decide ((n:Int)<(n:Int))=false:=decide_eq_false (by omega)
  have hidx:((n:Int)-1).toNat=n-1:=by omega
  replace hn:=hd_ hn
  replace hn2:=hd_ hn2
  clear hc ha
  go_enter Tryz.func182,Tryz.ntmps182
  go_upto_region 1 with (fail)
  rw [← hW.out,← hnb.out]
  go_wp2_with fail
  refine hLen.out.mono ?_
  rintro r wx ⟨rfl,rfl⟩
  go_wp2
  exact bodyPost_ret (v:=.tuple #[x.val, .bool true]) (by simp [results,Tryz.results182,go_sem,x0,x1,x2,x3,x4,x5,x6]) rfl ⟨rfl,hfin.out _ _ _ _ _ _ _⟩
end
section
open Go.RowKit
def okQ (o:Option Qd) (id hv:Int):Bool:=match o with | some q=>q.okAck id hv | none=>false
def Zj5 (o:Option Qd):Int:=match o with | some q=>q.last | none=>0
def Z9i (o:Option Qd) (id:Int):Int:=match o with | some q=>q.have_ id | none=>0
def Zj6 (o:Option Qd):Int:=match o with | some q=>q.last+1 | none=>0
def comQ (o:Option Qd):Int:=match o with | some q=>medQ q.H q.n | none=>0
def prbQ (o:Option Qd):Int:=match o with | some q=>medQ q.P q.n | none=>0
def Zd3 (s:Nd):Prop:=∀ q,s.q=some q→q.n=s.n∧q.me=s.id∧0≤q.mem∧q.mem<128∧0≤q.last
section
variable {own:Nat→Nat} {K:Nat} {w:World} {a:NdAt} {s:Nd} {out:List MsS}
theorem NdO.qn (h:NdO own K w a s out) (hq:s.q=none):a.qb=none:=by
 have:=h.r.qm
 rw [hq] at this
 cases hb:a.qb with
 | none=>rfl
 | some b=>rw [hb] at this;exact this.elim
theorem NdO.qs (h:NdO own K w a s out) {q:Qd} (hq:s.q=some q):∃ b,a.qb=some b∧own b=K+10∧qO w b q.n q.mem q.me q.H q.P q.last:=by
 have:=h.r.qm
 rw [hq] at this
 cases hb:a.qb with
 | none=>rw [hb] at this;exact this.elim
 | some b=>rw [hb] at this;exact⟨b,rfl,this⟩
theorem NdO.setQ (h:NdO own K w a s out) {b:Nat} (ha:a.qb=some b) (hob:own b=K+10) (q:Qd) {w':World} (hc:Chg (fun k=>k=b) w w') (hq:qO w' b q.n q.mem q.me q.H q.P q.last):NdO own K w' a { s with q:=some q } out∧Turn (fun o=>o=K+10) own own w w':=by
 have t:Turn (fun o=>o=K+10) own own w w':=.same (hc.mono fun k _ e=>by rw [show k=b from e];exact hob) h.wf
 have e:=h.r.putQ (t.mono (J':=fun o=>o=K∨o=K+10) fun o e=>.inr e) (b:=b) (q:=q) ⟨hob,hq⟩
 rw [show ({ a with qb:=some b }:NdAt)=a by rw [← ha]] at e
 exact⟨⟨t.pub h.blk (by rw [h.r.ob];have:=h.r.k16;omega),h.ears,e⟩,t⟩
theorem Z5c {T:Nat} (hT:T<128) {k:Int} (h:Z18 T k=true):1≤k∧k≤7:=Decidable.byContradiction fun hn=>by
 rw [hasT_out T hn] at h
 cases h
theorem Zj7 (a:Int):∀ l1 l2:List Int,(∀ b ∈ l1,¬ a≤b)→(∀ b ∈ l2,a≤b)→insI a (l1++l2)=l1++a :: l2
 | [],l2,_,h2=>by
   cases l2 with
   | nil=>rfl
   | cons y l=>show (if a≤y then a :: y :: l else y :: insI a l)=_;rw [if_pos (h2 y (List.mem_cons_self ..))];rfl
 | b :: l1,l2,h1,h2=>by
   show (if a≤b then _ else b :: insI a (l1++l2))=_
   rw [if_neg (h1 b (List.mem_cons_self ..)),Zj7 a l1 l2 (fun c hc=>h1 c (List.mem_cons_of_mem _ hc)) h2]
   rfl
theorem Zei:∀ l:List Int,Zag l=Z27 l
 | []=>by unfold Z27;simp [Zag]
 | x :: l=>by
   show insI x (Zag l)=Z27 (x :: l)
   rw [Zei l]
   obtain⟨l1,l2,h1,h2,h3⟩:=List.mergeSort_cons (le:=fun x y:Int=>decide (x≤y)) (fun a b c h1 h2=>by simp at h1 h2 ⊢;omega) (fun a b=>by simp;omega) x l
   have hs:=Zae (x :: l)
   unfold Z27 at hs ⊢
   rw [h1] at hs ⊢
   rw [h2]
   refine Zj7 x l1 l2 (fun b hb e=>?_) (fun b hb=>?_)
   ·have:=h3 b hb
    simp at this
    omega
   ·have:=(List.pairwise_append.1 hs).2.1
    exact (List.pairwise_cons.1 this).1 b hb
theorem med_eq (H:List Int) (n:Int):medQ H n=medS H n.toNat:=by unfold medQ medS;rw [Zei]
theorem Zj8 (h:NdO own K w a s out) (hqd:Zd3 s) (id hv pr:Int) :
  Calls Tryz.prog 177 #[Z3f a.qb, .int .i64 id, .int .i64 hv, .int .i64 pr] w fun r w'=>r=.returned (.bool (okQ s.q id hv))∧NdO own K w' a { s with q:=s.q.map fun q=>q.ack id hv pr } out∧Turn (fun o=>o=K+10) own own w w':=by
 cases hq:s.q with
 | none=>
   rw [h.qn hq]
   refine (Ze4 id hv pr w).mono ?_
   rintro r w' ⟨rfl,rfl⟩
   have e:({ s with q:=Option.map (fun q:Qd=>q.ack id hv pr) none }:Nd)=s:=by rw [Option.map_none,← hq]
   rw [e]
   exact⟨rfl,h, .same (Chg.refl _ _) h.wf⟩
 | some q=>
   obtain⟨b,ha,hob,hqo⟩:=h.qs hq
   obtain⟨_,_,m0,m1,_⟩:=hqd q hq
   rw [ha]
   cases hok:q.okAck id hv with
   | false=>
     refine (Zi1 b q.n q.mem q.me q.H q.P q.last id hv pr w hqo ⟨m0,m1⟩ hok).mono ?_
     rintro r w' ⟨rfl,rfl⟩
     have e1:q.ack id hv pr=q:=by unfold Qd.ack;rw [hok];rfl
     have e:({ s with q:=Option.map (fun q:Qd=>q.ack id hv pr) (some q) }:Nd)=s:=by rw [Option.map_some,e1,← hq]
     rw [e]
     exact⟨by show _=Ending.returned (.bool (q.okAck id hv));rw [hok],h, .same (Chg.refl _ _) h.wf⟩
   | true=>
     have hk:=hok
     unfold Qd.okAck at hk
     simp only [Bool.and_eq_true,decide_eq_true_eq] at hk
     obtain⟨⟨k1,k2⟩,k3⟩:=hk
     obtain⟨r1,r2⟩:=Z5c (by omega) k1
     obtain⟨i,rfl⟩:=Int.eq_ofNat_of_zero_le (show 0≤id by omega)
     refine (Ze2 b q.n q.mem q.me q.H q.P q.last i hv pr w hqo ⟨m0,m1⟩ k1 (by omega) (by omega) k2 k3).mono ?_
     rintro r w' ⟨rfl,hq',hc⟩
     have e1:q.ack (i:Int) hv pr={ q with H:=q.H.set i (max (q.H.getD i 0) hv),P:=ackP q.P i pr q.last }:=by unfold Qd.ack;rw [hok];rfl
     obtain⟨h2,t2⟩:=h.setQ ha hob { q with H:=q.H.set i (max (q.H.getD i 0) hv),P:=ackP q.P i pr q.last } hc hq'
     refine⟨by show _=Ending.returned (.bool (q.okAck (i:Int) hv));rw [hok],?_,t2⟩
     rw [Option.map_some,e1]
     exact h2
theorem ndQLast (h:NdO own K w a s out):Calls Tryz.prog 205 #[Z3f a.qb] w fun r w'=>r=.returned (.int .i64 (Zj5 s.q))∧w=w':=by
 cases hq:s.q with
 | none=>rw [h.qn hq];exact Zi7 w
 | some q=>
   obtain⟨b,ha,hob,hqo⟩:=h.qs hq
   rw [ha]
   exact Zi2 b q.n q.mem q.me q.H q.P q.last w hqo
theorem ndQHave (h:NdO own K w a s out) (hqd:Zd3 s) (id:Int):Calls Tryz.prog 136 #[Z3f a.qb, .int .i64 id] w fun r w'=>r=.returned (.int .i64 (Z9i s.q id))∧w=w':=by
 cases hq:s.q with
 | none=>rw [h.qn hq];exact Zi5 id w
 | some q=>
   obtain⟨b,ha,hob,hqo⟩:=h.qs hq
   obtain⟨_,_,m0,m1,_⟩:=hqd q hq
   rw [ha]
   show Calls _ _ _ _ fun r w'=>r=.returned (.int .i64 (q.have_ id))∧w=w'
   unfold Qd.have_
   cases hh:Z18 q.mem.toNat id with
   | false=>exact qHave_no b q.n q.mem q.me q.H q.P q.last id w hqo ⟨m0,m1⟩ hh
   | true=>
     obtain⟨r1,r2⟩:=Z5c (by omega) hh
     obtain⟨i,rfl⟩:=Int.eq_ofNat_of_zero_le (show 0≤id by omega)
     exact Zi3 b q.n q.mem q.me q.H q.P q.last i w hqo ⟨m0,m1⟩ hh (by omega)
theorem ndQNext (h:NdO own K w a s out) (hqd:Zd3 s) (hi:1≤s.id∧s.id≤7) (hl:∀ q,s.q=some q→q.last<4611686018427387904) :
  Calls Tryz.prog 132 #[Z3f a.qb] w fun r w'=>r=.returned (.int .i64 (Zj6 s.q))∧NdO own K w' a { s with q:=s.q.map Qd.next } out∧Turn (fun o=>o=K+10) own own w w':=by
 cases hq:s.q with
 | none=>
   rw [h.qn hq]
   refine (Zi6 w).mono ?_
   rintro r w' ⟨rfl,rfl⟩
   have e:({ s with q:=Option.map Qd.next none }:Nd)=s:=by rw [Option.map_none,← hq]
   rw [e]
   exact⟨rfl,h, .same (Chg.refl _ _) h.wf⟩
 | some q=>
   obtain⟨b,ha,hob,hqo⟩:=h.qs hq
   obtain⟨_,m2,m0,m1,m3⟩:=hqd q hq
   rw [ha]
   obtain⟨i,hi2⟩:=Int.eq_ofNat_of_zero_le (show 0≤q.me by omega)
   refine (Zi4 b q.n q.mem q.me q.H q.P q.last i w hqo hi2 (by omega) m3 (hl q hq)).mono ?_
   rintro r w' ⟨rfl,hq',hc⟩
   obtain⟨h2,t2⟩:=h.setQ ha hob q.next hc (by unfold Qd.next;rw [show q.me.toNat=i by omega];exact hq')
   exact⟨rfl,h2,t2⟩
theorem Zj9 (h:NdO own K w a s out) (hqd:Zd3 s) (hn:3≤s.n∧s.n≤7) :
  Calls Tryz.prog 225 #[Z3f a.qb] w fun r w'=>r=.returned (.int .i64 (comQ s.q))∧Below w.heap.size w w':=by
 cases hq:s.q with
 | none=>
   rw [h.qn hq]
   refine (Zcb w).mono ?_
   rintro r w' ⟨rfl,rfl⟩
   exact⟨rfl,Below.refl _ _⟩
 | some q=>
   obtain⟨b,ha,hob,hqo⟩:=h.qs hq
   obtain⟨m2,_⟩:=hqd q hq
   rw [ha]
   show Calls _ _ _ _ fun r w'=>r=.returned (.int .i64 (medQ q.H q.n))∧Below w.heap.size w w'
   rw [med_eq]
   exact Zca b q.n q.mem q.me q.H q.P q.last w hqo (by omega) (by omega)
theorem ndQProbe (h:NdO own K w a s out) (hqd:Zd3 s) (hn:3≤s.n∧s.n≤7) :
  Calls Tryz.prog 226 #[Z3f a.qb] w fun r w'=>r=.returned (.int .i64 (prbQ s.q))∧Below w.heap.size w w':=by
 cases hq:s.q with
 | none=>
   rw [h.qn hq]
   refine (Zfm w).mono ?_
   rintro r w' ⟨rfl,rfl⟩
   exact⟨rfl,Below.refl _ _⟩
 | some q=>
   obtain⟨b,ha,hob,hqo⟩:=h.qs hq
   obtain⟨m2,_⟩:=hqd q hq
   rw [ha]
   show Calls _ _ _ _ fun r w'=>r=.returned (.int .i64 (medQ q.P q.n))∧Below w.heap.size w w'
   rw [med_eq]
   exact Zfl b q.n q.mem q.me q.H q.P q.last w hqo (by omega) (by omega)
end
end
section
open Go.RowKit
theorem Z8m (b:Nat) (frm boot seq:Int) (l:List Ent) (F:Nat→Prop) (w:World) (h:pnO w F b frm boot seq l) (hl:l.length≤1000000) :
  Calls Tryz.prog 129 #[.pointer (some ⟨b,0,none⟩)] w fun r w'=>∃ v',r=.returned v'∧ownE w' w.heap.size 134 v' l∧Below w.heap.size w w':=by
 obtain⟨hF,v,hb,ho,hv⟩:=h
 have c3:w.cell? ⟨b,3,none⟩=some v:=Z00 hb 3
 have hlt:=Z04 hb
 have hC:=hd_ (Z2m v l w ho.rd hl)
 replace hb:=hd_ hb
 clear ho hv
 go_enter Tryz.func129,Tryz.ntmps129
 go_wp2_with fail
 refine hC.out.mono ?_
 rintro r w1 ⟨v',rfl,ho',hb'⟩
 replace ho':=hd_ ho'
 replace hb':=hd_ hb'
 clear hC c3
 go_wp2
 go_ret
 exact⟨_,rfl,ho'.out,hb'.out⟩
section
variable {own:Nat→Nat} {K:Nat} {w:World} {a:NdAt} {s:Nd} {out:List MsS}
open Classical in
theorem Zja (h:NdO own K w a s out) (clock:Int) (hq0:0≤s.pf.num) (hq1:s.pf.num<4611686018427387904) (hl:s.pf.asked.length≤1000000) :
  Calls Tryz.prog 133 #[Z09 a.f, .int .i64 clock] w fun r w'=>r=.returned (.int .i64 (s.pf.num+1))∧∃ own',NdO own' K w' a { s with pf:=s.pf.ask clock } out∧Turn (fun o=>o=K+7) own own' w w':=by
 have hk:=h.r.k16
 refine (Zj4 a.f s.pf _ clock w h.r.pf hq0 hq1 hl).mono ?_
 rintro r w' ⟨rfl,⟨F',hq,hF'⟩,hc⟩
 have t:=Turn.cls (J:=fun o=>o=K+7) (own:=own) (fun c=>if F' c then K+7 else 0) hc
 refine⟨rfl,_,⟨t.pub h.blk (by rw [h.r.ob];omega),h.ears,h.r.putF (t.mono (J':=fun o=>o=K∨o=K+7) fun o e=>.inr e) (hq.mono fun k hk'=>?_)⟩,t⟩
 show clsO _ _ _ _ k=K+7
 rcases hF' k hk' with e | ⟨e1,e2⟩
 ·have e:own k=K+7:=e
  have:k<w.heap.size:=Nat.lt_of_not_le fun hge=>by rw [h.wf k hge] at e;omega
  unfold clsO;rw [if_pos this];exact e
 ·unfold clsO;rw [if_neg (by omega),if_pos e2];exact if_pos hk'
theorem Zjb (h:NdO own K w a s out) (num com:Int) :
  Calls Tryz.prog 168 #[Z09 a.f, .int .i64 num, .int .i64 com] w fun r w'=>(∃ bb,r=.returned (.bool bb))∧NdO own K w' a { s with pf:=s.pf.get num com } out∧Turn (fun o=>o=K+7) own own w w':=by
 have hk:=h.r.k16
 refine (Zj3 a.f s.pf _ num com w h.r.pf).mono ?_
 rintro r w' ⟨⟨bb,rfl⟩,hq,hc⟩
 have t:Turn (fun o=>o=K+7) own own w w':=.same hc h.wf
 exact⟨⟨bb,rfl⟩,⟨t.pub h.blk (by rw [h.r.ob];omega),h.ears,h.r.putF (t.mono (J':=fun o=>o=K∨o=K+7) fun o e=>.inr e) hq⟩,t⟩
theorem xAsk_any (c:Nat) (h:NdO own K w a s out) (hok:Ok c s) (hc:c<1000000000) (hp:s.pend.length≤1000) (hl:out.length≤1000000) :
  Calls Tryz.prog 78 #[Z09 a.b] w fun r w'=>r=.returned (.tuple #[])∧Stp own K w a w' s.ask.1 (out.map MsS.m++s.ask.2):=by
 have h16:=h.r.k16
 have c1:w.cell? ⟨a.b,1,none⟩=some (.int .i64 s.n):=h.c 1
 have c11:w.cell? ⟨a.b,11,none⟩=some (.int .i64 s.last):=h.c 11
 have la:=h.lt
 have hl0:=hok.l0
 have hl1:=hok.l1
 have hd1:=hok.d1
 have hq0:=hok.q0
 have hq1:=hok.q1
 have hqa:=hok.qa
 have hb2:=hok.b2
 have HD:Hid (∀ y,Calls Tryz.prog 89 #[.int .i64 s.last, .int .i64 s.n] (Z1c w y) fun r w'=>r=.returned (.int .i64 (Z1y s.last s.n))∧∃ z,w'=Z1c w z):=hd_ fun y=>
  Z0o (Z0p s.last s.n _ (by omega) (by omega))
 obtain⟨d,hd⟩:∃ d,d=Z1y s.last s.n:=⟨_,rfl⟩
 rw [← hd] at HD
 obtain⟨R,hR⟩:∃ R,R=s.ask:=⟨_,rfl⟩
 rw [← hR]
 replace hR:=hd_ hR
 replace hd:=hd_ hd
 replace h:=hd_ h
 go_enter Tryz.func78,Tryz.ntmps78
 go_upto_region 0 with (fail)
 have k1:=Z07 c1
 have k11:=Z07 c11
 refine Z08 (by kernel_rfl) (by kernel_rfl) ?_
 repeat (go_big_quiet_step (first | (go_at_call 89;exact HD.out _)))
 refine wpQuiet_nil ?_
 intro w1 hw1
 have hb1:=Z0e hw1
 have hN1:=h.out.grow hb1
 have t1:=hd_ (Turn.grow (J:=JK K) (own:=own) hb1 h.out.wf)
 replace hN1:=hd_ hN1
 clear hw1 k1 k11 c1 c11 la HD hb1
 go_upto_region 1 with (fail)
 refine Z05 (fun c=>own c=K+7) (.q 0 (.q 1 (.q 2 (.q 3 (.q 4 (.q 5 (.q 6 (.q 7 (.q 8 (.q 9 (.q 10 (.q 11 (.q 12 (.q 13 (.l 14 (.l 15 (.cut (.l 16 .fin)))))))))))))))))) (by kernel_rfl) (by kernel_rfl) ?_
 intro w2 hh2 hb2
 have hN2:=hN1.out.grow hb2
 have hne:¬ own a.b=K+7:=by have:=hN2.r.ob;omega
 have u4:=Z01 (F:=fun c=>own c=K+7) (b:=w2) hne (show w2.cell? ⟨a.b,4,none⟩=some (.int .i64 s.clock) from hN2.c 4)
 have u11:=Z01 (F:=fun c=>own c=K+7) (b:=w2) hne (show w2.cell? ⟨a.b,11,none⟩=some (.int .i64 s.last) from hN2.c 11)
 have u16:=Z01 (F:=fun c=>own c=K+7) (b:=w2) hne (show w2.cell? ⟨a.b,16,none⟩=some (Z09 a.f) from hN2.c 16)
 have t2:=hd_ (t1.out.trans (Turn.grow (J:=JK K) hb2 hN1.out.wf))
 replace hN2:=hd_ hN2
 replace hb2:=hd_ hb2
 clear hh2
 iterate 14 (refine Z0n rfl ?_;go_big_quiet_step (fail);refine wpQuiet_nil ?_)
 refine Z0j rfl (by kernel_rfl) ?_
 intro K1 hK
 go_simp
 refine (Zja hN2.out s.clock hq0 (by omega) (by omega)).mono ?_
 rintro r w3 ⟨rfl,own3,hN3,t3⟩
 have t3':=t3.mono (J':=JK K) fun o e=>by unfold JK;omega
 refine hK _ _ t3.chg ?_
 clear hK K1
 refine Z0j rfl (by kernel_rfl) ?_
 intro K1 hK
 go_simp
 refine hK _ _ t3.chg ?_
 clear hK K1
 refine Z0h Z1j ?_
 refine Z0j rfl (by kernel_rfl) ?_
 intro K1 hK
 go_simp
 obtain⟨M,hM⟩:∃ M:Ms,M=⟨8,0,d,0,s.last,0,0,0,[],0,s.pf.num+1,0,false⟩:=⟨_,rfl⟩
 have hS:=Z6n hN3 M none 0 (by rw [hM];exact Z4e _ _) (by omega)
 rw [hM] at hS
 refine hS.mono ?_
 rintro r w4 ⟨rfl,own4,a4,o4,hN4,ho4,e4,t4⟩
 refine hK _ _ (Z0l t4) ?_
 clear hK K1 hS
 refine Z0c ?_
 have t5:=hd_ ((t2.out.trans t3').trans t4)
 obtain⟨s3,hs3⟩:∃ s3:Nd,s3={ s with pf:=s.pf.ask s.clock }:=⟨_,rfl⟩
 rw [← hs3] at hN4
 have e1:s3.pend=s.pend:=by rw [hs3]
 have hab:=hd_ e4.b
 have c13:w4.cell? ⟨a.b,13,none⟩=some (Z09 a4.p):=hN4.cb hab.out 13
 have la4:=hN4.lt
 rw [show a4.b=a.b from hab.out] at la4
 have hL:=hd_ (Z8m a4.p s3.id s3.boot s3.pseq s3.pend _ w4 hN4.r.pn (by rw [e1];omega))
 rw [e1] at hL
 replace e1:=hd_ e1
 replace hN4:=hd_ hN4
 replace hs3:=hd_ hs3
 replace hM:=hd_ hM
 clear u4 u11 u16 hN3 t3 t3' t4
 go_wp2_with fail
 refine hL.out.mono ?_
 rintro r w5 ⟨v5,rfl,ho5,hb5⟩
 have hN5:=hN4.out.grow hb5
 have t6:=Turn.grow (J:=JK K) hb5 hN4.out.wf
 have hp5:pubE own4 w5 v5 s.pend:=pubE.new ho5 hN4.out.wf
 have t7:=hd_ (t5.out.trans t6)
 obtain⟨ad,cp,rfl⟩:=ho5.rd.len
 have hRe:R=(s3,{ s.ms 8 d with view:=s.last,num:=s.pf.num+1 } :: if s.pend.isEmpty then [] else [{ s.ms 7 d with ents:=s.pend }]):=by rw [hR.out,hs3.out,hd.out];rfl
 replace hRe:=hd_ hRe
 replace hp5:=hd_ hp5
 replace hN5:=hd_ hN5
 clear hL c13 la4 ho5 hb5 t6
 obtain⟨n,hn⟩:∃ n,n=s.pend.length:=⟨_,rfl⟩
 rw [← hn]
 rcases Nat.eq_zero_or_pos n with h0 | h0
 ·have hnil:s.pend=[]:=List.eq_nil_of_length_eq_zero (by omega)
  replace hn:=hd_ hn
  subst h0
  replace hnil:=hd_ hnil
  go_wp2
  go_end0
  rw [hRe.out]
  refine⟨rfl,own4,a4,o4,hN5.out,?_,e4,t7.out⟩
  rw [ho4,hnil.out]
  rfl
 ·have hne':s.pend.isEmpty=false:=by cases hpd:s.pend with | nil=>rw [hpd] at hn;simp at hn;omega | cons x l=>rfl
  replace hne':=hd_ hne'
  have lo4:o4.length≤1000001:=by have:=congrArg List.length ho4;simp at this;omega
  obtain⟨M2,hM2⟩:∃ M2:Ms,M2=⟨7,0,d,0,0,0,0,0,s.pend,0,0,0,false⟩:=⟨_,rfl⟩
  have hS:=Z6n hN5.out M2 ad cp (by rw [hM2];exact hp5.out) (by omega)
  rw [hM2] at hS
  rw [show a4.b=a.b from hab.out] at hS
  have hS2:Calls Tryz.prog 116 #[Z09 a.b,Z0w ⟨7,0,d,0,0,0,0,0,s.pend,0,0,0,false⟩ (.slice ad n cp)] w5 fun r w'=>r=.returned (.tuple #[])∧∃ own2 a2 o2,NdO own2 K w' a2 s3 o2∧o2.map MsS.m=o4.map MsS.m++[{ s.ms 7 d with ents:=s.pend }]∧At0 a4 a2∧Turn (JK K) own4 own2 w5 w':=by
   rw [hn]
   have e9:s3.id=s.id∧s3.boot=s.boot:=by rw [hs3.out];exact⟨rfl,rfl⟩
   rw [e9.1,e9.2] at hS
   exact hS
  replace hS2:=hd_ hS2
  replace hn:=hd_ hn
  clear hS
  go_wp2_with fail
  refine hS2.out.mono ?_
  rintro r w6 ⟨rfl,own6,a6,o6,hN6,ho6,e6,t8⟩
  have t9:=hd_ (t7.out.trans t8)
  replace hN6:=hd_ hN6
  clear hS2 t8
  go_wp2
  go_end0
  rw [hRe.out]
  refine⟨rfl,own6,a6,o6,hN6.out,?_,e4.trans e6,t9.out⟩
  rw [ho6,ho4,hne'.out,List.append_assoc]
  rfl
end
end
section
open Go.RowKit
theorem Zjc {own:Nat→Nat} {w w':World} (wf:∀ c,w.heap.size≤c→own c=0) {j:Nat} (hj:j≠0):∀ k,Gr (Is own j) w w' k→Is (Z5q own w.heap.size w'.heap.size j) j k:=fun k h=>by
 rcases h with h | h
 ·have hk:k<w.heap.size:=Nat.lt_of_not_le fun e=>hj ((wf k e).symm.trans h).symm
  exact (Z3k hk).trans h
 ·exact Z20 (by omega) h.2
theorem Zay (l:List Ent) (c:Int):Z40 l c=if l.isEmpty then c else max c (l.getLast?.getD ent0).stamp:=by
 unfold Z40
 cases h:l.getLast? with
 | none=>rw [List.getLast?_eq_none_iff.1 h];rfl
 | some x=>
   have:l.isEmpty=false:=by cases l with | nil=>cases h | cons a l=>rfl
   rw [this];rfl
section
variable {own:Nat→Nat} {K:Nat} {w:World} {a:NdAt} {s:Nd} {out:List MsS}
theorem ndLAdd (h:NdO own K w a s out) (e:Ent) (hl:s.L.length≤60) :
  Calls Tryz.prog 152 #[Z09 a.l,e.val] w fun r w'=>r=.returned (.bool (Z3a s.L e))∧∃ own',NdO own' K w' a { s with L:=Z88 s.L e } out∧Turn (fun o=>o=K+3) own own' w w':=by
 refine (Z5o a.l s.L e (Is own (K+3)) w h.r.lg hl).mono ?_
 rintro r w' ⟨rfl,hg,hc⟩
 have hk:=h.r.k16
 have t0:=Turn.ext hc
 exact⟨rfl,_,⟨t0.pub h.blk (by rw [h.r.ob];omega),h.ears,h.r.putL (t0.mono fun o e=>.inr e) (hg.mono (Zjc h.wf (by omega)))⟩,t0⟩
theorem Zej (h:NdO own K w a s out) (hqd:Zd3 s) (hl:s.L.length≤60) (e:Ent) :
  Calls Tryz.prog 130 #[Z09 a.b,e.val] w fun r w'=>r=.returned (.tuple #[])∧∃ own',NdO own' K w' a (s.add e) out∧Turn (JK K) own own' w w':=by
 have h16:=h.r.k16
 obtain⟨ef,eb,es,eo,el,et,ed⟩:=e
 obtain⟨W0,hW0⟩:∃ W,W=w.alloc (.cells #[.int .i64 ef, .int .i64 eb, .int .i64 es, .int .i64 eo, .int .i64 el, .int .i64 et, .string ed] 134):=⟨_,rfl⟩
 have hB0:Below w.heap.size w W0:=hW0 ▸ (Below.refl _ _).alloc (Nat.le_refl _) _
 obtain⟨xb,hxb⟩:∃ xb,xb=w.heap.size:=⟨_,rfl⟩
 have hx0:W0.heap[xb]?=some (.cells #[.int .i64 ef, .int .i64 eb, .int .i64 es, .int .i64 eo, .int .i64 el, .int .i64 et, .string ed] 134 (0,0)):=hW0 ▸ hxb ▸ Z0a _ _
 have hN0:=h.grow hB0
 have hxo:own xb=0:=h.wf xb (by omega)
 have t0:=Turn.grow (J:=JK K) (own:=own) hB0 h.wf
 obtain⟨ck,hck⟩:∃ ck,ck=s.clock:=⟨_,rfl⟩
 obtain⟨st,hst⟩:∃ st,st=Z40 s.L ck:=⟨_,rfl⟩
 have hst2:=hst
 rw [Zay] at hst2
 obtain⟨E',hE'⟩:∃ E':Ent,E'=⟨ef,eb,es,eo,el,st,ed⟩:=⟨_,rfl⟩
 obtain⟨R,hR⟩:∃ R,R=s.add ⟨ef,eb,es,eo,el,et,ed⟩:=⟨_,rfl⟩
 have hRe:R=if Z3a s.L E' then { s with L:=s.L++[E'],q:=s.q.map fun q=>q.ack s.id (s.L.length+1) 0 } else s:=by rw [hR,hE',hst,hck];rfl
 rw [← hR]
 -- the stamp: its clock
 obtain⟨W1,hW1⟩:∃ W,W=W0.setCell ⟨xb,5,none⟩ (.int .i64 ck):=⟨_,rfl⟩
 have hx1:W1.heap[xb]?=some (.cells #[.int .i64 ef, .int .i64 eb, .int .i64 es, .int .i64 eo, .int .i64 el, .int .i64 ck, .string ed] 134 (0,0)):=hW1 ▸ Z0d hx0
 have hB1:Below w.heap.size w W1:=hW1 ▸ hB0.setCell (Nat.le_of_eq hxb.symm) _
 have hN1:=h.grow hB1
 have t1:=hd_ (Turn.grow (J:=JK K) (own:=own) hB1 h.wf)
 have c4:W0.cell? ⟨a.b,4,none⟩=some (.int .i64 ck):=by rw [hck];exact hN0.c 4
 have x5:W0.cell? ⟨xb,5,none⟩=some (.int .i64 et):=Z00 hx0 5
 have z5:=Z03 hx0 5
 have lx0:=Z04 hx0
 have la0:=hN0.lt
 replace hx1:=hd_ hx1
 replace hx0:=hd_ hx0
 replace hN1:=hd_ hN1
 replace hN0:=hd_ hN0
 replace h:=hd_ h
 replace hB0:=hd_ hB0
 replace hB1:=hd_ hB1
 replace hR:=hd_ hR
 replace hRe:=hd_ hRe
 replace hE':=hd_ hE'
 replace hst:=hd_ hst
 replace hst2:=hd_ hst2
 replace hck:=hd_ hck
 clear t0
 go_enter Tryz.func130,Tryz.ntmps130
 go_upto_region 1 with (fail)
 rw [← hW0,← hxb]
 replace hW0:=hd_ hW0
 replace hxb:=hd_ hxb
 go_upto_region 2 with (fail)
 rw [← hW1]
 replace hW1:=hd_ hW1
 clear c4 x5 z5 lx0 la0
 obtain⟨La,hLa⟩:∃ La,La=s.L.getLast?.getD ent0:=⟨_,rfl⟩
 replace hLa:=hd_ hLa
 go_cut [4,5] (fun z4 z5 wx=>∃ nb,z4=.pointer (some ⟨nb,0,none⟩)∧z5=.bool (!s.L.isEmpty)∧W1.heap.size≤nb∧Below W1.heap.size W1 wx∧wx.heap[nb]?=some (.cells #[.int .i64 La.frm, .int .i64 La.boot, .int .i64 La.seq, .int .i64 La.ord, .int .i64 La.lev, .int .i64 La.stamp, .string La.data] 134 (0,0)))
 case first=>
  refine Z05 (fun _=>False) (.q 0 (.q 1 (.q 2 (.q 3 (.q 4 (.q 5 (.q 6 (.q 7 (.two 8 (.two 9 (.q 10 (.q 11 (.q 12 (.l 13 (.l 14 (.q 15 .fin)))))) 13 (.l 9 (.q 10 (.q 11 (.q 12 (.l 14 (.q 15 .fin))))))) 13 (.l 8 (.l 9 (.q 10 (.q 11 (.q 12 (.l 14 (.q 15 .fin)))))))))))))))) (by kernel_rfl) (by kernel_rfl) ?_
  intro w2 hh2 hb2
  have hN2:=hN1.out.grow hb2
  have u9:=Z01 (F:=fun _=>False) (b:=w2) (fun h=>h) (show w2.cell? ⟨a.b,9,none⟩=some (Z09 a.l) from hN2.c 9)
  have hrl:=hd_ hN2.r.lg.rd
  replace hN2:=hd_ hN2
  clear hh2
  iterate 8 (refine Z0n rfl ?_;go_big_quiet_step (fail);refine wpQuiet_nil ?_)
  refine Zhh ?_ ?_
  ·refine Z0j rfl (by kernel_rfl) ?_
   intro K1 hK
   go_simp
   refine (Z0m a.l s.L _ hrl.out).mono ?_
   rintro r wx ⟨rfl,rfl⟩
   refine hK _ _ (Chg.refl _ _) ?_
   clear hK K1
   refine Zhh ?_ ?_
   ·refine Z0j rfl (by kernel_rfl) ?_
    intro K1 hK
    go_simp
    refine (Z62 a.l s.L _ hrl.out (by omega)).mono ?_
    rintro r w3 ⟨rfl,hbw3⟩
    refine hK _ _ (.of_below hbw3) ?_
    clear hK K1
    rw [← hLa.out]
    iterate 3 (refine Z0n rfl ?_;go_big_quiet_step (fail);refine wpQuiet_nil ?_)
    refine Z0j rfl (by kernel_rfl) ?_
    intro K1 hK
    go_simp
    obtain⟨W4,hW4⟩:∃ W,W=w3.alloc (.cells #[.int .i64 0, .int .i64 0, .int .i64 0, .int .i64 0, .int .i64 0, .int .i64 0, .string ⟨#[]⟩] 134):=⟨_,rfl⟩
    have hBW4:Below w3.heap.size w3 W4:=hW4 ▸ (Below.refl _ _).alloc (Nat.le_refl _) _
    obtain⟨nb,hnb⟩:∃ nb,nb=w3.heap.size:=⟨_,rfl⟩
    have hxW4:W4.heap[nb]?=some (.cells #[.int .i64 0, .int .i64 0, .int .i64 0, .int .i64 0, .int .i64 0, .int .i64 0, .string ⟨#[]⟩] 134 (0,0)):=hW4 ▸ hnb ▸ Z0a _ _
    rw [← hW4,← hnb]
    replace hW4:=hd_ hW4
    have hbw4:=hbw3.trans (hBW4.mono hbw3.size)
    have hnn:w2.heap.size≤nb:=by have:=hbw3.size;omega
    replace hnb:=hd_ hnb
    refine hK _ _ (.of_below hbw4) ?_
    clear hK K1
    have x0:=Z00 hxW4 0
    have x1:=Z00 hxW4 1
    have x2:=Z00 hxW4 2
    have x3:=Z00 hxW4 3
    have x4:=Z00 hxW4 4
    have x5:=Z00 hxW4 5
    have x6:=Z00 hxW4 6
    have z0:=Z03 hxW4 0
    have z1:=Z03 hxW4 1
    have z2:=Z03 hxW4 2
    have z3:=Z03 hxW4 3
    have z4:=Z03 hxW4 4
    have z5:=Z03 hxW4 5
    have z6:=Z03 hxW4 6
    simp only [List.getElem?_toArray,List.getElem?_cons_zero,List.getElem?_cons_succ] at x0 x1 x2 x3 x4 x5 x6
    have lnb:=Z04 hxW4
    obtain⟨W9,hW9⟩:∃ W9,W9=(((((((W4.setCell ⟨nb,0,none⟩ (.int .i64 La.frm)).setCell ⟨nb,1,none⟩ (.int .i64 La.boot)).setCell ⟨nb,2,none⟩ (.int .i64 La.seq)).setCell ⟨nb,3,none⟩ (.int .i64 La.ord)).setCell ⟨nb,4,none⟩ (.int .i64 La.lev)).setCell ⟨nb,5,none⟩ (.int .i64 La.stamp)).setCell ⟨nb,6,none⟩ (.string La.data)):=⟨_,rfl⟩
    have hx9:W9.heap[nb]?=some (.cells #[.int .i64 La.frm, .int .i64 La.boot, .int .i64 La.seq, .int .i64 La.ord, .int .i64 La.lev, .int .i64 La.stamp, .string La.data] 134 (0,0)):=hW9 ▸ Z0d (Z0d (Z0d (Z0d (Z0d (Z0d (Z0d hxW4))))))
    have hb9:Below w2.heap.size w2 W9:=hW9 ▸ ((((((hbw4.setCell hnn _).setCell hnn _).setCell hnn _).setCell hnn _).setCell hnn _).setCell hnn _).setCell hnn _
    refine Z0j rfl (by kernel_rfl) ?_
    intro K1 hK
    go_simp
    rw [← hW9]
    refine hK _ _ (.of_below hb9) ?_
    clear hK K1
    replace hW9:=hd_ hW9
    clear x0 x1 x2 x3 x4 x5 x6 z0 z1 z2 z3 z4 z5 z6 lnb
    refine Z0n rfl ?_;go_big_quiet_step (fail);refine wpQuiet_nil ?_
    refine Z0c ?_
    have hfin:=hd_ (hb2.trans (hb9.mono hb2.size))
    have hsz:=Nat.le_trans hb2.size hnn
    replace hx9:=hd_ hx9
    replace hb9:=hd_ hb9
    go_wp2_with fail
    go_meet
    exact⟨nb,rfl,rfl,hsz,hfin.out,hx9.out⟩
   ·refine Z0j rfl (by kernel_rfl) ?_
    intro K1 hK
    go_simp
    obtain⟨W4,hW4⟩:∃ W,W=w2.alloc (.cells #[.int .i64 0, .int .i64 0, .int .i64 0, .int .i64 0, .int .i64 0, .int .i64 0, .string ⟨#[]⟩] 134):=⟨_,rfl⟩
    have hBW4:Below w2.heap.size w2 W4:=hW4 ▸ (Below.refl _ _).alloc (Nat.le_refl _) _
    obtain⟨nb,hnb⟩:∃ nb,nb=w2.heap.size:=⟨_,rfl⟩
    have hxW4:W4.heap[nb]?=some (.cells #[.int .i64 0, .int .i64 0, .int .i64 0, .int .i64 0, .int .i64 0, .int .i64 0, .string ⟨#[]⟩] 134 (0,0)):=hW4 ▸ hnb ▸ Z0a _ _
    rw [← hW4,← hnb]
    replace hW4:=hd_ hW4
    have hnn:w2.heap.size≤nb:=by omega
    replace hnb:=hd_ hnb
    refine hK _ _ (.of_below hBW4) ?_
    clear hK K1
    have hr4:=hd_ (hrl.out.grow hBW4)
    refine Z0j rfl (by kernel_rfl) ?_
    intro K1 hK
    go_simp
    refine (Z62 a.l s.L _ hr4.out (by omega)).mono ?_
    rintro r w3 ⟨rfl,hbw3⟩
    refine hK _ _ (.of_below (hBW4.trans (hbw3.mono hBW4.size))) ?_
    clear hK K1
    rw [← hLa.out]
    iterate 3 (refine Z0n rfl ?_;go_big_quiet_step (fail);refine wpQuiet_nil ?_)
    have hbw4:=hBW4.trans (hbw3.mono hBW4.size)
    have hx3:=Z02 hxW4 hbw3
    have x0:=Z00 hx3 0
    have x1:=Z00 hx3 1
    have x2:=Z00 hx3 2
    have x3:=Z00 hx3 3
    have x4:=Z00 hx3 4
    have x5:=Z00 hx3 5
    have x6:=Z00 hx3 6
    have z0:=Z03 hx3 0
    have z1:=Z03 hx3 1
    have z2:=Z03 hx3 2
    have z3:=Z03 hx3 3
    have z4:=Z03 hx3 4
    have z5:=Z03 hx3 5
    have z6:=Z03 hx3 6
    simp only [List.getElem?_toArray,List.getElem?_cons_zero,List.getElem?_cons_succ] at x0 x1 x2 x3 x4 x5 x6
    have lnb:=Z04 hx3
    obtain⟨W9,hW9⟩:∃ W9,W9=(((((((w3.setCell ⟨nb,0,none⟩ (.int .i64 La.frm)).setCell ⟨nb,1,none⟩ (.int .i64 La.boot)).setCell ⟨nb,2,none⟩ (.int .i64 La.seq)).setCell ⟨nb,3,none⟩ (.int .i64 La.ord)).setCell ⟨nb,4,none⟩ (.int .i64 La.lev)).setCell ⟨nb,5,none⟩ (.int .i64 La.stamp)).setCell ⟨nb,6,none⟩ (.string La.data)):=⟨_,rfl⟩
    have hx9:W9.heap[nb]?=some (.cells #[.int .i64 La.frm, .int .i64 La.boot, .int .i64 La.seq, .int .i64 La.ord, .int .i64 La.lev, .int .i64 La.stamp, .string La.data] 134 (0,0)):=hW9 ▸ Z0d (Z0d (Z0d (Z0d (Z0d (Z0d (Z0d hx3))))))
    have hb9:Below w2.heap.size w2 W9:=hW9 ▸ ((((((hbw4.setCell hnn _).setCell hnn _).setCell hnn _).setCell hnn _).setCell hnn _).setCell hnn _).setCell hnn _
    refine Z0j rfl (by kernel_rfl) ?_
    intro K1 hK
    go_simp
    rw [← hW9]
    refine hK _ _ (.of_below hb9) ?_
    clear hK K1
    replace hW9:=hd_ hW9
    clear x0 x1 x2 x3 x4 x5 x6 z0 z1 z2 z3 z4 z5 z6 lnb
    refine Z0n rfl ?_;go_big_quiet_step (fail);refine wpQuiet_nil ?_
    refine Z0c ?_
    have hfin:=hd_ (hb2.trans (hb9.mono hb2.size))
    have hsz:=Nat.le_trans hb2.size hnn
    replace hx9:=hd_ hx9
    replace hb9:=hd_ hb9
    go_wp2_with fail
    go_meet
    exact⟨nb,rfl,rfl,hsz,hfin.out,hx9.out⟩
  ·refine Z0j rfl (by kernel_rfl) ?_
   intro K1 hK
   go_simp
   obtain⟨W4,hW4⟩:∃ W,W=w2.alloc (.cells #[.int .i64 0, .int .i64 0, .int .i64 0, .int .i64 0, .int .i64 0, .int .i64 0, .string ⟨#[]⟩] 134):=⟨_,rfl⟩
   have hBW4:Below w2.heap.size w2 W4:=hW4 ▸ (Below.refl _ _).alloc (Nat.le_refl _) _
   obtain⟨nb,hnb⟩:∃ nb,nb=w2.heap.size:=⟨_,rfl⟩
   have hxW4:W4.heap[nb]?=some (.cells #[.int .i64 0, .int .i64 0, .int .i64 0, .int .i64 0, .int .i64 0, .int .i64 0, .string ⟨#[]⟩] 134 (0,0)):=hW4 ▸ hnb ▸ Z0a _ _
   rw [← hW4,← hnb]
   replace hW4:=hd_ hW4
   have hnn:w2.heap.size≤nb:=by omega
   replace hnb:=hd_ hnb
   refine hK _ _ (.of_below hBW4) ?_
   clear hK K1
   have hr4:=hd_ (hrl.out.grow hBW4)
   refine Z0j rfl (by kernel_rfl) ?_
   intro K1 hK
   go_simp
   refine (Z0m a.l s.L _ hr4.out).mono ?_
   rintro r wx ⟨rfl,rfl⟩
   refine hK _ _ (.of_below hBW4) ?_
   clear hK K1
   refine Z0j rfl (by kernel_rfl) ?_
   intro K1 hK
   go_simp
   refine (Z62 a.l s.L _ hr4.out (by omega)).mono ?_
   rintro r w3 ⟨rfl,hbw3⟩
   refine hK _ _ (.of_below (hBW4.trans (hbw3.mono hBW4.size))) ?_
   clear hK K1
   rw [← hLa.out]
   iterate 3 (refine Z0n rfl ?_;go_big_quiet_step (fail);refine wpQuiet_nil ?_)
   have hbw4:=hBW4.trans (hbw3.mono hBW4.size)
   have hx3:=Z02 hxW4 hbw3
   have x0:=Z00 hx3 0
   have x1:=Z00 hx3 1
   have x2:=Z00 hx3 2
   have x3:=Z00 hx3 3
   have x4:=Z00 hx3 4
   have x5:=Z00 hx3 5
   have x6:=Z00 hx3 6
   have z0:=Z03 hx3 0
   have z1:=Z03 hx3 1
   have z2:=Z03 hx3 2
   have z3:=Z03 hx3 3
   have z4:=Z03 hx3 4
   have z5:=Z03 hx3 5
   have z6:=Z03 hx3 6
   simp only [List.getElem?_toArray,List.getElem?_cons_zero,List.getElem?_cons_succ] at x0 x1 x2 x3 x4 x5 x6
   have lnb:=Z04 hx3
   obtain⟨W9,hW9⟩:∃ W9,W9=(((((((w3.setCell ⟨nb,0,none⟩ (.int .i64 La.frm)).setCell ⟨nb,1,none⟩ (.int .i64 La.boot)).setCell ⟨nb,2,none⟩ (.int .i64 La.seq)).setCell ⟨nb,3,none⟩ (.int .i64 La.ord)).setCell ⟨nb,4,none⟩ (.int .i64 La.lev)).setCell ⟨nb,5,none⟩ (.int .i64 La.stamp)).setCell ⟨nb,6,none⟩ (.string La.data)):=⟨_,rfl⟩
   have hx9:W9.heap[nb]?=some (.cells #[.int .i64 La.frm, .int .i64 La.boot, .int .i64 La.seq, .int .i64 La.ord, .int .i64 La.lev, .int .i64 La.stamp, .string La.data] 134 (0,0)):=hW9 ▸ Z0d (Z0d (Z0d (Z0d (Z0d (Z0d (Z0d hx3))))))
   have hb9:Below w2.heap.size w2 W9:=hW9 ▸ ((((((hbw4.setCell hnn _).setCell hnn _).setCell hnn _).setCell hnn _).setCell hnn _).setCell hnn _).setCell hnn _
   refine Z0j rfl (by kernel_rfl) ?_
   intro K1 hK
   go_simp
   rw [← hW9]
   refine hK _ _ (.of_below hb9) ?_
   clear hK K1
   replace hW9:=hd_ hW9
   clear x0 x1 x2 x3 x4 x5 x6 z0 z1 z2 z3 z4 z5 z6 lnb
   refine Z0n rfl ?_;go_big_quiet_step (fail);refine wpQuiet_nil ?_
   refine Z0c ?_
   have hfin:=hd_ (hb2.trans (hb9.mono hb2.size))
   have hsz:=Nat.le_trans hb2.size hnn
   replace hx9:=hd_ hx9
   replace hb9:=hd_ hb9
   go_wp2_with fail
   go_meet
   exact⟨nb,rfl,rfl,hsz,hfin.out,hx9.out⟩
 case rest=>
  obtain⟨nb,rfl,rfl,hsz,hbx,hn3⟩:=hcut
  rename World=>w3
  have hN3:=hd_ (hN1.out.grow hbx)
  have hB3:=hd_ (hB1.out.trans (hbx.mono hB1.out.size))
  have hx3:=Z02 hx1.out hbx
  clear hbx hsz
  obtain⟨em,hem⟩:∃ em,s.L.isEmpty=em:=⟨_,rfl⟩
  have hs2:=hst2.out
  rw [hem] at hs2 ⊢
  replace hem:=hd_ hem
  cases em
  case' true=>
   obtain⟨W5,hW5,hx5,hB5⟩:∃ W5,W5=w3∧W5.heap[xb]?=some (.cells #[.int .i64 ef, .int .i64 eb, .int .i64 es, .int .i64 eo, .int .i64 el, .int .i64 st, .string ed] 134 (0,0))∧Below w.heap.size w W5:=⟨w3,rfl,by rw [show st=ck from hs2];exact hx3,hB3.out⟩
   replace hs2:=hd_ hs2
   replace hx3:=hd_ hx3
   replace hn3:=hd_ hn3
   go_upto_region 5 with (fail)
   rw [← hW5]
   replace hW5:=hd_ hW5
  case' false=>
   have hs3:st=max ck La.stamp:=by rw [hLa.out];exact hs2
   have x5:w3.cell? ⟨xb,5,none⟩=some (.int .i64 ck):=Z00 hx3 5
   have z5:=Z03 hx3 5
   have lx:=Z04 hx3
   have y5:w3.cell? ⟨nb,5,none⟩=some (.int .i64 La.stamp):=Z00 hn3 5
   have ly:=Z04 hn3
   obtain⟨W5,hW5,hx5,hB5⟩:∃ W5,W5=w3.setCell ⟨xb,5,none⟩ (.int .i64 (max ck La.stamp))∧W5.heap[xb]?=some (.cells #[.int .i64 ef, .int .i64 eb, .int .i64 es, .int .i64 eo, .int .i64 el, .int .i64 st, .string ed] 134 (0,0))∧Below w.heap.size w W5:=⟨_,rfl,by rw [hs3];exact Z0d hx3,hB3.out.setCell (Nat.le_of_eq hxb.out.symm) _⟩
   replace hs2:=hd_ hs2
   replace hs3:=hd_ hs3
   replace hx3:=hd_ hx3
   replace hn3:=hd_ hn3
   go_upto_region 5 with (fail)
   rw [← hW5]
   replace hW5:=hd_ hW5
   clear x5 z5 lx y5 ly
  all_goals
   have hN5:=h.out.grow hB5
   have t5:=Turn.grow (J:=JK K) (own:=own) hB5 h.out.wf
   refine Z05 (fun _=>False) (.q 0 (.q 1 (.q 2 (.q 3 (.q 4 (.cut (.l 5 .fin))))))) (by kernel_rfl) (by kernel_rfl) ?_
   intro w6 hh6 hb6
   have hN6:=hN5.grow hb6
   have hx6:=Z02 hx5 hb6
   have u9:=Z01 (F:=fun _=>False) (b:=w6) (fun h=>h) (show w6.cell? ⟨a.b,9,none⟩=some (Z09 a.l) from hN6.c 9)
   have p0:=Z01 (F:=fun _=>False) (b:=w6) (fun h=>h) (show w6.cell? ⟨xb,0,none⟩=some (.int .i64 ef) from Z00 hx6 0)
   have p1:=Z01 (F:=fun _=>False) (b:=w6) (fun h=>h) (show w6.cell? ⟨xb,1,none⟩=some (.int .i64 eb) from Z00 hx6 1)
   have p2:=Z01 (F:=fun _=>False) (b:=w6) (fun h=>h) (show w6.cell? ⟨xb,2,none⟩=some (.int .i64 es) from Z00 hx6 2)
   have p3:=Z01 (F:=fun _=>False) (b:=w6) (fun h=>h) (show w6.cell? ⟨xb,3,none⟩=some (.int .i64 eo) from Z00 hx6 3)
   have p4:=Z01 (F:=fun _=>False) (b:=w6) (fun h=>h) (show w6.cell? ⟨xb,4,none⟩=some (.int .i64 el) from Z00 hx6 4)
   have p5:=Z01 (F:=fun _=>False) (b:=w6) (fun h=>h) (show w6.cell? ⟨xb,5,none⟩=some (.int .i64 st) from Z00 hx6 5)
   have p6:=Z01 (F:=fun _=>False) (b:=w6) (fun h=>h) (show w6.cell? ⟨xb,6,none⟩=some (.string ed) from Z00 hx6 6)
   have t6:=hd_ (t5.trans (Turn.grow (J:=JK K) hb6 hN5.wf))
   replace hN6:=hd_ hN6
   replace hx6:=hd_ hx6
   clear hh6 hN5 t5 hx5 hB5
   replace hb6:=hd_ hb6
   repeat (refine Z0n rfl ?_;go_big_quiet_step (fail);refine wpQuiet_nil ?_)
   refine Z0h Z1j ?_
   refine Z0j rfl (by kernel_rfl) ?_
   intro K1 hK
   go_simp
   have hAd:=ndLAdd hN6.out ⟨ef,eb,es,eo,el,st,ed⟩ hl
   obtain⟨ok,hok⟩:∃ ok,Z3a s.L ⟨ef,eb,es,eo,el,st,ed⟩=ok:=⟨_,rfl⟩
   rw [hok] at hAd
   refine hAd.mono ?_
   rintro r w7 ⟨rfl,own7,hN7,t7⟩
   refine hK _ _ (Z0l t7) ?_
   clear hK K1 hAd u9 p0 p1 p2 p3 p4 p5 p6
   refine Z0c ?_
   have t7':=t7.mono (J':=JK K) fun o e=>by unfold JK;omega
   have t8:=hd_ (t6.out.trans t7')
   clear t7 t7'
   cases ok
   case false=>
    have e1:Z88 s.L ⟨ef,eb,es,eo,el,st,ed⟩=s.L:=by unfold Z88;rw [hok];rfl
    rw [e1] at hN7
    have hRs:R=s:=by rw [hRe.out,hE'.out,hok];rfl
    replace hN7:=hd_ hN7
    replace hRs:=hd_ hRs
    replace hok:=hd_ hok
    clear e1
    go_wp2
    go_end0
    rw [hRs.out]
    exact⟨rfl,own7,hN7.out,t8.out⟩
   have e1:Z88 s.L ⟨ef,eb,es,eo,el,st,ed⟩=s.L++[E']:=by unfold Z88;rw [hok,hE'.out];rfl
   rw [e1] at hN7
   have hRs:R={ s with L:=s.L++[E'],q:=s.q.map fun q=>q.ack s.id (s.L.length+1) 0 }:=by rw [hRe.out];rw [hE'.out] at *;rw [hok];rfl
   obtain⟨s7,hs7⟩:∃ s7:Nd,s7={ s with L:=s.L++[E'] }:=⟨_,rfl⟩
   rw [← hs7] at hN7
   have hqd7:Zd3 s7:=by rw [hs7];exact hqd
   have hln:s7.L.length=s.L.length+1:=by rw [hs7];show (s.L++[E']).length=_;rw [List.length_append];rfl
   have hRs7:R={ s7 with q:=s7.q.map fun q=>q.ack s7.id ((s7.L.length:Nat):Int) 0 }:=by rw [hRs,hln,hs7];push_cast;rfl
   replace hRs7:=hd_ hRs7
   replace hok:=hd_ hok
   replace hs7:=hd_ hs7
   replace hN7:=hd_ hN7
   clear hRs e1 hln
   go_upto_region 6 with (fail)
   refine Z05 (fun _=>False) (.q 0 (.q 1 (.q 2 (.q 3 (.q 4 (.q 5 (.q 6 (.q 7 (.q 8 (.q 9 (.q 10 (.q 11 (.l 12 (.cut (.l 13 .fin))))))))))))))) (by kernel_rfl) (by kernel_rfl) ?_
   intro w8 hh8 hb8
   have hN8:=hN7.out.grow hb8
   have u9:=Z01 (F:=fun _=>False) (b:=w8) (fun h=>h) (show w8.cell? ⟨a.b,9,none⟩=some (Z09 a.l) from hN8.c 9)
   have u0:=Z01 (F:=fun _=>False) (b:=w8) (fun h=>h) (show w8.cell? ⟨a.b,0,none⟩=some (.int .i64 s7.id) from hN8.c 0)
   have u21:=Z01 (F:=fun _=>False) (b:=w8) (fun h=>h) (show w8.cell? ⟨a.b,21,none⟩=some (Z3f a.qb) from hN8.c 21)
   have t9:=hd_ (t8.out.trans (Turn.grow (J:=JK K) hb8 hN7.out.wf))
   have hrl:=hd_ hN8.r.lg.rd
   replace hN8:=hd_ hN8
   clear hh8
   replace hb8:=hd_ hb8
   iterate 12 (refine Z0n rfl ?_;go_big_quiet_step (fail);refine wpQuiet_nil ?_)
   refine Z0j rfl (by kernel_rfl) ?_
   intro K1 hK
   go_simp
   refine (Z0m a.l s7.L _ hrl.out).mono ?_
   rintro r wx ⟨rfl,rfl⟩
   refine hK _ _ (Chg.refl _ _) ?_
   clear hK K1
   refine Z0h Z1j ?_
   refine Z0j rfl (by kernel_rfl) ?_
   intro K1 hK
   go_simp
   have hA:=Zj8 hN8.out hqd7 s7.id (s7.L.length:Int) 0
   refine hA.mono ?_
   rintro r w10 ⟨rfl,hN10,t10⟩
   have t10':=t10.mono (J':=JK K) fun o e=>by unfold JK;omega
   refine hK _ _ (Z0l t10) ?_
   clear hK K1 u9 u0 u21 hA
   refine Z0c ?_
   have t11:=hd_ (t9.out.trans t10')
   replace hN10:=hd_ hN10
   clear t10 t10'
   go_wp2
   go_end0
   rw [hRs7.out]
   exact⟨rfl,own7,hN10.out,t11.out⟩
end
end
section
open Go.RowKit
structure Okg (c:Nat) (s:Nd):Prop extends Ok c s where
 b3:s.boot≤1000000
 pd:s.pend.length≤4
 pm:∀ e ∈ s.pend,Z2l e=true
 ps0:0≤s.pseq
 lm:∀ e ∈ s.L,Z2l e=true
 tdl:s.td.length≤60*c
 tbl:s.tb.length≤s.td.length
 asl:s.asked.length≤64+c
 asq:∀ q ∈ s.asked,1≤q.1∧q.1≤7∧0≤q.2.1∧q.2.1≤1099511627776
 qd:∀ q,s.q=some q→q.n=s.n∧q.me=s.id∧0≤q.mem∧q.mem<128∧0≤q.last∧q.last≤c∧∀ x ∈ q.H,0≤x∧x≤60
 er:∀ x ∈ s.ears,0≤x∧x≤s.clock
 st0:0≤s.start
theorem addE_may {l:List Ent} {e:Ent} (h:∀ x ∈ l,Z2l x=true):∀ x ∈ Z88 l e,Z2l x=true:=by
 unfold Z88
 split
 ·next hok=>
  intro x hx
  rcases List.mem_append.1 hx with h1 | h1
  ·exact h x h1
  ·rw [List.mem_singleton.1 h1]
   unfold Z3a at hok
   simp only [Bool.and_eq_true] at hok
   exact hok.1.1.1
 ·exact h
theorem Zek (es:List Ent):∀ x ∈ Z2y es,Z2l x=true:=by
 have key:∀ (es l:List Ent),(∀ x ∈ l,Z2l x=true)→∀ x ∈ es.foldl Z88 l,Z2l x=true:=by
  intro es
  induction es with
  | nil=>exact fun l h=>h
  | cons e es ih=>exact fun l h=>ih _ (addE_may h)
 exact key es [] (fun x hx=>by cases hx)
theorem Zaz {l:List Ent} {K:Nat} {es:List Ent} (h:∀ x ∈ l,Z2l x=true):∀ i m,Z2g l K es i=some m→∀ x ∈ m,Z2l x=true
 | 0,m,e=>by
   injection e with e
   rw [← e];exact h
 | i+1,m,e=>by
   unfold Z2g at e
   cases hp:Z2g l K es i with
   | none=>rw [hp] at e;cases e
   | some m'=>
     rw [hp] at e
     have ih:=Zaz h i m' hp
     dsimp only at e
     split at e
     ·split at e
      ·injection e with e;rw [← e];exact ih
      ·cases e
     ·split at e
      ·next hok=>
       injection e with e
       rw [← e]
       intro x hx
       rcases List.mem_append.1 hx with h1 | h1
       ·exact ih x h1
       ·rw [List.mem_singleton.1 h1]
        unfold Z3a at hok
        simp only [Bool.and_eq_true] at hok
        exact hok.1.1.1
      ·cases e
theorem putE_may {l:List Ent} {k:Int} {es m:List Ent} (h:∀ x ∈ l,Z2l x=true) (e:Z6p l k es=some m):∀ x ∈ m,Z2l x=true:=by
 unfold Z6p at e
 split at e
 ·cases e
 ·exact Zaz h _ _ e
theorem Qd.ack_same (q:Qd) (id hv pr:Int):(q.ack id hv pr).n=q.n∧(q.ack id hv pr).me=q.me∧(q.ack id hv pr).mem=q.mem∧(q.ack id hv pr).last=q.last:=by
 unfold Qd.ack
 split<;>exact⟨rfl,rfl,rfl,rfl⟩
def Qin (s:Nd) (c:Nat):Option Qd→Prop:=fun o=>∀ q,o=some q→q.n=s.n∧q.me=s.id∧0≤q.mem∧q.mem<128∧0≤q.last∧q.last≤c∧∀ x ∈ q.H,0≤x∧x≤60
theorem Zjd {l:List Int} {i:Nat} {y:Int} {P:Int→Prop} (h:∀ x ∈ l,P x) (hy:P y):∀ x ∈ l.set i y,P x:=fun x hx=>by
 rcases List.mem_or_eq_of_mem_set hx with h1 | h1
 ·exact h x h1
 ·rw [h1];exact hy
theorem Z9j {l:List Int} {P:Int→Prop} (h:∀ x ∈ l,P x) (h0:P 0) (i:Nat):P (l.getD i 0):=by
 rw [List.getD_eq_getElem?_getD]
 cases e:l[i]? with
 | none=>exact h0
 | some x=>exact h x (List.mem_of_getElem? e)
theorem Qd.ack_H {q:Qd} (h:∀ x ∈ q.H,0≤x∧x≤60) (id hv pr:Int):∀ x ∈ (q.ack id hv pr).H,0≤x∧x≤60:=by
 unfold Qd.ack
 split
 ·next hok=>
  unfold Qd.okAck at hok
  simp only [Bool.and_eq_true,decide_eq_true_eq] at hok
  obtain⟨⟨_,h1⟩,h2⟩:=hok
  have h3:=Z9j (P:=fun x=>0≤x∧x≤60) h (by omega) id.toNat
  exact Zjd (P:=fun x=>0≤x∧x≤60) h (by omega)
 ·exact h
theorem Qin.ack {s:Nd} {c:Nat} {o:Option Qd} (h:Qin s c o) (id hv pr:Int):Qin s c (o.map fun q=>q.ack id hv pr):=by
 intro q e
 cases o with
 | none=>cases e
 | some q0=>
   injection e with e
   obtain⟨e1,e2,e3,e4⟩:=q0.ack_same id hv pr
   obtain⟨a1,a2,a3,a4,a5,a6,a7⟩:=h q0 rfl
   rw [← e,e1,e2,e3,e4]
   exact⟨a1,a2,a3,a4,a5,a6,Qd.ack_H a7 id hv pr⟩
theorem Okg.up {c d:Nat} {s:Nd} (h:Okg c s) (hd:c≤d):Okg d s:=
 { h.toOk.up hd with b3:=h.b3,pd:=h.pd,pm:=h.pm,ps0:=h.ps0,lm:=h.lm,tdl:=Nat.le_trans h.tdl (Nat.mul_le_mul_left _ hd),tbl:=h.tbl,asl:=by have:=h.asl;omega,asq:=h.asq,qd:=fun q e=>by obtain⟨a1,a2,a3,a4,a5,a6,a7⟩:=h.qd q e;exact⟨a1,a2,a3,a4,a5,by omega,a7⟩,er:=h.er,st0:=h.st0 }
theorem Okg.tell {c:Nat} {s:Nd} (h:Okg c s) (hc:c≤1000000):Tell s:=
 ⟨h.lg,h.lm,h.o0,by have:=h.tdl;omega,by have:=h.tdl;have:=h.tbl;omega,h.c0,by have:=h.c1;omega⟩
theorem Okg.qdok {c:Nat} {s:Nd} (h:Okg c s):∀ q,s.q=some q→q.n=s.n∧q.me=s.id∧0≤q.mem∧q.mem<128∧0≤q.last:=fun q e=>by
 obtain⟨a1,a2,a3,a4,a5,a6,a7⟩:=h.qd q e;exact⟨a1,a2,a3,a4,a5⟩
theorem Zel (com now:Int):∀ (l:List Ent) (i:Int) (a t m:Bool) (td:Td),∃ outs,Z78 com now l i a t m td=td++outs
 | [],i,a,t,m,td=>⟨[],(List.append_nil _).symm⟩
 | e :: l,i,a,t,m,td=>by
   rw [Z7j]
   obtain⟨o1,h1⟩:∃ o1,(if !Z1r td e&&Z6m a t m e i com now then td++[(i,e)] else td)=td++o1:=by
    split
    ·exact⟨_,rfl⟩
    ·exact⟨[],(List.append_nil _).symm⟩
   rw [h1]
   obtain⟨o2,h2⟩:=Zel com now l (i+1) (a&&Z1r (td++o1) e) (t&&(Z1r (td++o1) e||e.ord != 1)) (m&&(Z1r (td++o1) e||e.ord != 2)) (td++o1)
   exact⟨o1++o2,by rw [h2,List.append_assoc]⟩
theorem Zem (td:Td) (l:List Ent) (com now:Int):∃ outs,Zid td l com now=td++outs:=Zel _ _ _ _ _ _ _ _
theorem Okg.settle {c:Nat} {s:Nd} (h:Okg c s):Okg (c+1) s.settle:=by
 have h1:=h.up (Nat.le_succ c)
 obtain⟨outs,hg⟩:∃ outs,Zid s.td s.L s.com s.clock=s.td++outs:=Zem _ _ _ _
 have hl:(Zid s.td s.L s.com s.clock).length≤s.td.length+60:=by
  unfold Zid
  have:=Z9h (min (max s.com 0) ((s.L.take 60).length:Int)) s.clock (s.L.take 60) 1 true true true s.td
  rw [List.length_take] at this ⊢
  omega
 have ht:(Z3j s.tb outs).length≤s.tb.length+outs.length:=Zax s.tb outs
 have hset:s.settle={ s with pend:=s.pend.filter (fun e => !((s.L.take (min s.com s.L.length).toNat).any fun x=>Z35 x e)),td:=s.td++outs,tb:=Z3j s.tb outs }:=by
  unfold Nd.settle
  dsimp only
  rw [hg,List.drop_left]
 rw [hset]
 rw [hg,List.length_append] at hl
 exact { h1 with
  pd:=Nat.le_trans (List.length_filter_le _ _) h.pd
  pm:=fun e he=>h.pm e (List.mem_filter.1 he).1
  tdl:=by show (s.td++outs).length≤60*(c+1);rw [List.length_append];have:=h.tdl;omega
  tbl:=by show (Z3j s.tb outs).length≤(s.td++outs).length;rw [List.length_append];have:=h.tbl;omega }
theorem Okg.propose {c:Nat} {s:Nd} (h:Okg c s):Okg c s.propose.1:=by
 have h1:=h.toOk.propose
 unfold Nd.propose at h1 ⊢
 dsimp only at h1 ⊢
 split at h1
 ·next hp=>rw [if_pos hp];exact h
 ·next hp=>rw [if_neg hp];exact { h1 with b3:=h.b3,pd:=h.pd,pm:=h.pm,ps0:=h.ps0,lm:=h.lm,tdl:=h.tdl,tbl:=h.tbl,asl:=h.asl,asq:=h.asq,qd:=h.qd,er:=h.er,st0:=h.st0 }
theorem Okg.install {c:Nat} {s:Nd} (h:Okg c s) {u:Int} {l:List Vt} (hv:s.v=some (u,l)) (hu:u=s.dv):Okg c (s.install u l).1:=by
 have h1:=h.toOk.installs hv hu
 have hq:Qin s c ((Qd.fresh s.n (Z0v (mkV l):Nat) s.id).map fun q=>q.ack s.id ((Z2y (Z57 l).lg).length:Int) 0):=by
  refine Qin.ack (fun q e=>?_) _ _ _
  unfold Qd.fresh at e
  split at e
  ·injection e with e
   have:=Z31 (mkV l)
   rw [← e]
   exact⟨rfl,rfl,by show (0:Int)≤(Z0v (mkV l):Nat);omega,by show ((Z0v (mkV l):Nat):Int)<128;omega,Int.le_refl _,by show (0:Int)≤c;omega,fun x hx=>by
    have:x=0:=by simpa [List.mem_cons] using hx
    omega⟩
  ·cases e
 exact { h1 with b3:=h.b3,pd:=h.pd,pm:=h.pm,ps0:=h.ps0,lm:=Zek _,tdl:=h.tdl,tbl:=h.tbl,asl:=Nat.zero_le _,asq:=fun q hq=>(by cases hq),qd:=hq,er:=fun x hx=>(by rw [(List.mem_replicate.1 hx).2];exact⟨h.c0,Int.le_refl _⟩),st0:=by show (0:Int)≤((Z2y (Z57 l).lg).length:Int);omega }
theorem Okg.gather {c:Nat} {s:Nd} (h:Okg c s) {u:Int} {l:List Vt} (hv:s.v=some (u,l)) (hu:u=s.dv):Okg c (s.gather u l).1:=by
 unfold Nd.gather
 split
 ·exact h.install hv hu
 ·split
  ·exact h.propose
  ·exact h
theorem Okg.add {c:Nat} {s:Nd} (h:Okg c s) (e:Ent):Okg c (s.add e):=by
 unfold Nd.add
 dsimp only
 split
 ·next hok=>
  have hl:s.L.length<60:=by
   unfold Z3a at hok
   simp only [Bool.and_eq_true,decide_eq_true_eq] at hok
   exact hok.1.2
  have hm:Z2l { e with stamp:=Z40 s.L s.clock }=true:=by
   unfold Z3a at hok
   simp only [Bool.and_eq_true] at hok
   exact hok.1.1.1
  have hq:Qin s c (s.q.map fun q=>q.ack s.id (s.L.length+1) 0):=Qin.ack h.qd _ _ _
  exact { h with
   lg:=by show (s.L++[_]).length≤60;rw [List.length_append,List.length_singleton];omega
   o1:=by show s.com≤((s.L++[_]).length:Int);have:=h.o1;rw [List.length_append,List.length_singleton];omega
   lm:=fun x hx=>by
    rcases List.mem_append.1 hx with h1 | h1
    ·exact h.lm x h1
    ·rw [List.mem_singleton.1 h1];exact hm
   qd:=hq }
 ·exact h
theorem Okg.adds {c:Nat}:∀ (es:List Ent) {s:Nd},Okg c s→Okg c (es.foldl Nd.add s)
 | [],s,h=>h
 | e :: es,s,h=>Okg.adds es (h.add e)
theorem Zg8 {α:Type} (l:List α):(Z56 l).length≤64:=by unfold Z56;rw [List.length_drop];omega
theorem Okg.pfask {c:Nat} {s:Nd} (h:Okg c s):Okg (c+1) { s with pf:=s.pf.ask s.clock }:=
 { h.up (Nat.le_succ c) with
   q0:=by show 0≤s.pf.num+1;have:=h.q0;omega
   q1:=by show s.pf.num+1≤s.boot*1048576+((c+1:Nat):Int);have:=h.q1;omega
   qa:=Zg8 _ }
theorem Okg.clk {c:Nat} {s:Nd} (h:Okg c s):Okg (c+1) { s with clock:=s.clock+1 }:=
 have h1:=h.up (Nat.le_succ c)
 { h.toOk.clk with b3:=h1.b3,pd:=h1.pd,pm:=h1.pm,ps0:=h1.ps0,lm:=h1.lm,tdl:=h1.tdl,tbl:=h1.tbl,asl:=h1.asl,asq:=h1.asq,qd:=h1.qd,er:=fun x hx=>by have:=h.er x hx;show 0≤x∧x≤s.clock+1;omega,st0:=h1.st0 }
theorem Okg.decide_ {c:Nat} {s:Nd} (h:Okg c s) (hc:c<1000000000):Okg (c+1) s.decide_.1:=by
 have h1:=Okg.adds s.pend h
 unfold Nd.decide_
 dsimp only
 generalize s.pend.foldl Nd.add s=s1 at h1 ⊢
 split
 ·exact (h1.propose).up (Nat.le_succ c)
 ·have h2:=h1.pfask
  refine { h2 with
   asl:=by show (s1.asked++[_]).length≤64+(c+1);rw [List.length_append,List.length_singleton];have:=h1.asl;omega
   asq:=fun q hq=>by
    rcases List.mem_append.1 hq with h3 | h3
    ·exact h1.asq q h3
    ·rw [List.mem_singleton.1 h3]
     have:=h1.i1;have:=h1.in_;have:=h1.n7;have:=h1.q0;have:=h1.q1;have:=h1.b3
     show 1≤s1.id∧s1.id≤7∧0≤s1.pf.num+1∧s1.pf.num+1≤1099511627776
     omega
   qd:=fun q e=>?_ }
  have e:s1.q.map Qd.next=some q:=e
  cases hq:s1.q with
  | none=>rw [hq] at e;cases e
  | some q0=>
    rw [hq] at e
    injection e with e
    obtain⟨a1,a2,a3,a4,a5,a6,a7⟩:=h1.qd q0 hq
    rw [← e]
    exact⟨a1,a2,a3,a4,by show 0≤q0.last+1;omega,by show q0.last+1≤((c+1:Nat):Int);omega,a7⟩
theorem Okg.tick0 {c:Nat} {s:Nd} (h:Okg c s) (hc:c<1000000000):Okg (c+1) s.tick0.1:=by
 have hu:=h.up (Nat.le_succ c)
 unfold Nd.tick0
 dsimp only
 split
 ·exact hu
 ·have hr:Okg (c+1) (if s.decides then s.decide_ else if s.late then s.propose else if s.in_ then s.ask else (s,[])).1:=by
   split
   ·exact h.decide_ hc
   ·split
    ·exact h.propose.up (Nat.le_succ c)
    ·split
     ·exact h.pfask
     ·exact hu
  split
  ·next u l hv=>
   split
   ·next he=>exact (h.gather hv (by simpa using he)).up (Nat.le_succ c)
   ·exact hr
  ·exact hr
theorem Okg.tick {c:Nat} {s:Nd} (h:Okg c s) (hc:c<100000000):Okg (c+3) s.tick.1:=by
 have h1:=(h.clk.tick0 (by omega)).settle
 exact h1
end
end Go.Proofs.YtbonjbokofkafaaGreat
