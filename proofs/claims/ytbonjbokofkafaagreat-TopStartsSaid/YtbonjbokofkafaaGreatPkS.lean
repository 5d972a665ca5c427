/- Lemmas of the proof: PkS. -/
import Derived.Test.YtbonjbokofkafaaGreatPkH
import Derived.Test.YtbonjbokofkafaaGreatPkA
import Derived.Test.YtbonjbokofkafaaGreatPkR
import Derived.ArgAppend
import Derived.Test.YtbonjbokofkafaaGreatPkB
import Derived.Test.YtbonjbokofkafaaGreatPkI
import Derived.Test.YtbonjbokofkafaaGreatPkF
import Derived.Test.YtbonjbokofkafaaGreatPkK
import Derived.Test.YtbonjbokofkafaaGreatPkE
namespace Go.Proofs.YtbonjbokofkafaaGreat
set_option linter.unusedVariables false
set_option maxRecDepth 100000
set_option maxHeartbeats 64000000
section
open Go.RowKit
theorem Zj2 {l:List (Int × Int)} {num:Int} {k:Nat} (hk:k<l.length) (h:(l.take k).find? (fun q=>q.1==num)=none) :
  (l[k].1=num→l.find? (fun q=>q.1==num)=some l[k])∧(l[k].1≠num→(l.take (k+1)).find? (fun q=>q.1==num)=none):=by
 refine⟨fun e=>?_,fun e=>?_⟩
 ·have h1:l.find? (fun q=>q.1==num)=(l.take k++l.drop k).find? (fun q=>q.1==num):=by rw [List.take_append_drop]
  rw [h1,List.find?_append,h,List.drop_eq_getElem_cons hk,Option.none_or,List.find?_cons_of_pos]
  simpa using e
 ·rw [List.take_succ_eq_append_getElem hk,List.find?_append,h]
  simp [e]
theorem pfO.ne {w:World} {F:Nat→Prop} {b:Nat} {p:Pf} {v:Value} (hb:w.heap[b]?=some (.cells #[.int .i64 p.num,v, .bool p.has, .int .i64 p.bn, .int .i64 p.bc, .int .i64 p.com] 207 (0,0))) (hr:rowO Z99 w 205 v p.asked):∀ k,v.ownBlock=some k→k≠b:=by
 rintro k hk rfl
 rcases hr with ⟨rfl,_⟩ | ⟨g,off,cap,cur,rfl,hg,_⟩
 ·cases hk
 ·cases hk
  rw [hb] at hg
  injection hg with hg
  injection hg with h1 h2
  cases h2
theorem Zj3 (b:Nat) (p:Pf) (F:Nat→Prop) (num com:Int) (w:World) (h:pfO w F b p) :
  Calls Tryz.prog 168 #[.pointer (some ⟨b,0,none⟩), .int .i64 num, .int .i64 com] w fun r w'=>(∃ bb,r=.returned (.bool bb))∧pfO w' F b (p.get num com)∧Chg F w w':=by
 have h0:=h
 obtain⟨z0,v,hb,hv,hr⟩:=h
 have h1:=hd_ (pfO.ne (F:=F) hb hr)
 have c1:w.cell? ⟨b,1,none⟩=some v:=Z00 hb 1
 have c2:w.cell? ⟨b,2,none⟩=some (.bool p.has):=Z00 hb 2
 have c3:w.cell? ⟨b,3,none⟩=some (.int .i64 p.bn):=Z00 hb 3
 have hlt:=Z04 hb
 have i1:=hd_ hr
 obtain⟨a,b1,rfl,hm,hM,ha⟩:=hr.rd
 unfold maxLen at hM
 replace ha:=hd_ ha;replace hb:=hd_ hb;replace hv:=hd_ hv;replace h0:=hd_ h0
 have hg:p.get num com=if p.has&&decide (num≤p.bn) then p else match p.asked.find? (fun q=>q.1==num) with | some q=>{ p with has:=true,bn:=q.1,bc:=q.2,com:=com } | none=>p:=rfl
 obtain⟨ph,o0⟩:∃ ph,p.has=ph:=⟨_,rfl⟩
 rw [o0] at c2 hg
 by_cases hc:ph=true∧num≤p.bn
 ·obtain⟨rfl,e1⟩:=hc
  have e:p.get num com=p:=by rw [hg,if_pos (by simpa using e1)]
  rw [e]
  replace e:=hd_ e;replace hg:=hd_ hg;replace o0:=hd_ o0;clear hr
  go_enter Tryz.func168,Tryz.ntmps168
  go_wp2
  go_ret
  exact⟨⟨_,rfl⟩,h0.out,Chg.refl _ _⟩
 have e:p.get num com=match p.asked.find? (fun q=>q.1==num) with | some q=>{ p with has:=true,bn:=q.1,bc:=q.2,com:=com } | none=>p:=by
  rw [hg,if_neg (by simp only [Bool.and_eq_true,decide_eq_true_eq];exact hc)]
 obtain⟨R,hR⟩:∃ R,R=p.get num com:=⟨_,rfl⟩
 rw [← hR]
 rw [← hR] at e
 clear hg hr;replace e:=hd_ e;replace hR:=hd_ hR;replace o0:=hd_ o0
 obtain⟨b2,q0⟩:∃ c,decide (num≤p.bn)=c:=⟨_,rfl⟩
 have w0:(ph&&b2)=false:=by
  rw [← q0]
  cases ph
  ·rfl
  ·simp only [Bool.true_and,decide_eq_false_iff_not]
   exact fun h=>hc ⟨rfl,h⟩
 clear hc;replace w0:=hd_ w0
 go_enter Tryz.func168,Tryz.ntmps168
 go_upto_region 1 with (fail)
 go_cut [25] (fun z wx=>z=.bool (ph&&b2)∧w=wx)
 case first=>
  cases ph
  ·go_wp2_with fail
   go_meet
   exact⟨rfl,rfl⟩
  ·go_wp2_with fail
   go_meet
   exact⟨by rw [← q0];simp,rfl⟩
 case rest=>
  obtain⟨rfl,j1⟩:=hcut
  rename World=>wx
  subst j1
  rw [w0.out]
  replace q0:=hd_ q0;clear c2 c3;go_wp2
  go_loopw [31,8] (fun i _ wr=>∃ k:Nat,k≤p.asked.length∧i=.int .i64 k∧(p.asked.take k).find? (fun q=>q.1==num)=none∧Below w.heap.size w wr) (fun i _ _=>p.asked.length-(intOf i).toNat)
  case atStart=>exact⟨0,Nat.zero_le _,rfl,rfl,Below.refl _ _⟩
  case round=>
   obtain⟨k,hk,rfl,n0,b0⟩:=hrel
   replace n0:=hd_ n0
   by_cases hlt2:k<p.asked.length
   ·obtain⟨g,off,rfl,hc⟩:=ha.out (by omega)
    have r0:=(hc k hlt2).grow Z99 w wr g _ _ b0
    obtain⟨f1,f2⟩:=Zj2 hlt2 n0.out
    obtain⟨x,hx⟩:∃ x,x=p.asked[k]:=⟨_,rfl⟩
    rw [← hx] at r0 f1 f2
    replace hx:=hd_ hx
    have d0:wr.cell? ⟨g,off+k*2,none⟩=some (.int .i64 x.1):=r0 0 _ rfl
    have d1:wr.cell? ⟨g,off+k*2+1,none⟩=some (.int .i64 x.2):=r0 1 _ rfl
    obtain⟨W1,g0⟩:∃ W,W=wr.alloc (.cells #[.int .i64 x.1, .int .i64 x.2] 205):=⟨_,rfl⟩
    have s0:Below wr.heap.size wr W1:=g0 ▸ (Below.refl _ _).alloc (Nat.le_refl _) _
    obtain⟨nb,l0⟩:∃ nb,nb=wr.heap.size:=⟨_,rfl⟩
    have f0:W1.heap[nb]?=some (.cells #[.int .i64 x.1, .int .i64 x.2] 205 (0,0)):=g0 ▸ l0 ▸ Z0a _ _
    have c0:=hd_ (b0.trans (s0.mono b0.size))
    have y0:=Z00 f0 0
    have y1:=Z00 f0 1
    simp only [List.getElem?_toArray,List.getElem?_cons_zero,List.getElem?_cons_succ] at y0 y1
    have lbx:=Z04 f0
    replace f0:=hd_ f0;replace b0:=hd_ b0;replace s0:=hd_ s0;clear hc r0;go_upto_region 6 with (fail)
    rw [← g0,← l0]
    replace g0:=hd_ g0;replace l0:=hd_ l0;clear d0 d1
    by_cases heq:x.1=num
    ·have f3:=hd_ (f1 heq)
     replace f2:=hd_ f2;clear f1;subst heq;go_upto_region 7 with (fail)
     refine Z0y (Zf6 b [2,3,4,5]) (.q 0 (.q 1 (.q 2 (.q 3 (.q 4 (.q 5 (.q 6 (.l 7 (.q 8 (.q 9 (.l 10 (.q 11 (.q 12 (.l 13 .fin)))))))))))))) (by kernel_rfl) (by kernel_rfl) ?_
     intro w3 a1 j0
     have a0:=Z02 hb.out (c0.out.trans (j0.mono c0.out.size))
     have e0:=Z02 f0.out j0
     have m0:nb≠b:=by have:=l0.out;have:=b0.out.size;omega
     have k0:=Z1d (F:=Zf6 b [2,3,4,5]) (b:=w3) (g:=nb) (o:=0) (fun h=>m0 h.1) (show w3.cell? ⟨nb,0,none⟩=some (.int .i64 x.1) from Z00 e0 0)
     have k1:=Z1d (F:=Zf6 b [2,3,4,5]) (b:=w3) (g:=nb) (o:=1) (fun h=>m0 h.1) (show w3.cell? ⟨nb,1,none⟩=some (.int .i64 x.2) from Z00 e0 1)
     have p0:=c0.out.trans (j0.mono c0.out.size)
     have r3:rowO Z99 w3 205 (.slice (some ⟨g,off,none⟩) p.asked.length b1) p.asked:=i1.out.same fun q hq hl=>p0.block q hl
     obtain⟨W4,i0⟩:∃ W,W=(((w3.setCell ⟨b,2,none⟩ (.bool true)).setCell ⟨b,3,none⟩ (.int .i64 x.1)).setCell ⟨b,4,none⟩ (.int .i64 x.2)).setCell ⟨b,5,none⟩ (.int .i64 com):=⟨_,rfl⟩
     have v0:Chg (fun k=>k=b) w3 W4:=i0 ▸ Z06 (Z06 (Z06 (Z06 (Chg.refl _ _) rfl) rfl) rfl) rfl
     have x0:pfO W4 F b { p with has:=true,bn:=x.1,bc:=x.2,com:=com }:=⟨z0,_,i0 ▸ Z0d (Z0d (Z0d (Z0d a0))),hv.out,r3.same fun q hq hl=>v0.block q hl (h1.out q hq)⟩
     have t0:Chg F w W4:=(Chg.of_below p0).more v0 fun i e=>.inl (by rw [show i=b from e];exact z0)
     have q2:w3.cell? ⟨b,2,none⟩=some (.bool p.has):=Z00 a0 2
     have q3:w3.cell? ⟨b,3,none⟩=some (.int .i64 p.bn):=Z00 a0 3
     have q4:w3.cell? ⟨b,4,none⟩=some (.int .i64 p.bc):=Z00 a0 4
     have q5:w3.cell? ⟨b,5,none⟩=some (.int .i64 p.com):=Z00 a0 5
     have z2:=Z03 a0 2
     have z3:=Z03 a0 3
     have z4:=Z03 a0 4
     have z5:=Z03 a0 5
     have hl3:=Z04 a0
     replace x0:=hd_ x0;replace t0:=hd_ t0;replace a0:=hd_ a0;replace e0:=hd_ e0;replace p0:=hd_ p0;replace r3:=hd_ r3;replace j0:=hd_ j0;replace a1:=hd_ a1;clear v0;iterate 7 (refine Z6l rfl ?_;go_big_quiet_step (fail);refine wpQuiet_nil ?_)
     refine Z4j rfl (by kernel_rfl) ?_;intro K1 hK;go_simp
     refine hK _ _ ((ChgC.refl _ _).set ⟨rfl,by simp⟩) ?_
     clear hK K1;iterate 2 (refine Z6l rfl ?_;go_big_quiet_step (fail);refine wpQuiet_nil ?_)
     refine Z4j rfl (by kernel_rfl) ?_;intro K1 hK;go_simp
     refine hK _ _ ((((ChgC.refl _ _).set ⟨rfl,by simp⟩).set ⟨rfl,by simp⟩).set ⟨rfl,by simp⟩) ?_
     clear hK K1;iterate 2 (refine Z6l rfl ?_;go_big_quiet_step (fail);refine wpQuiet_nil ?_)
     refine Z4j rfl (by kernel_rfl) ?_;intro K1 hK;go_simp
     refine hK _ _ (((((ChgC.refl _ _).set ⟨rfl,by simp⟩).set ⟨rfl,by simp⟩).set ⟨rfl,by simp⟩).set ⟨rfl,by simp⟩) ?_
     clear hK K1;refine Z0c ?_
     rw [← i0]
     replace i0:=hd_ i0;clear q2 q3 q4 q5 z2 z3 z4 z5 k0 k1;go_wp2
     go_ret
     rw [e.out,f3.out]
     exact⟨⟨_,rfl⟩,x0.out,t0.out⟩
    ·have f3:=hd_ (f2 heq)
     have g1:(x.1==num)=false:=by simpa using heq
     replace heq:=hd_ heq;clear f1 f2;go_wp2
     go_roundw
     case rel=>exact⟨k+1,by omega,by go_num,f3.out,c0.out⟩
     case measure=>simp [intOf];omega
   ·obtain rfl:k=p.asked.length:=by omega
    rw [List.take_length] at n0
    replace b0:=hd_ b0;go_wp2
    go_ret
    rw [e.out,n0.out]
    exact⟨⟨_,rfl⟩,h0.out.chg (.of_below (F:=fun _=>False) b0.out) (fun _ _ h=>h), .of_below b0.out⟩
end
section
open Go.RowKit
theorem Zeh {α:Type} {S:Shp α} {w:World} {base:Nat} {T:TypeId} {v:Value} {l:List α} (h:ownG S w base T v l):rowO S w T v l:=by
 have hr:=h.rd S
 obtain⟨hl,⟨rfl,h0⟩ | ⟨g,a0,c0,rfl,hb,hg,hn,hc,hs,ht⟩⟩:=h
 ·exact .inl ⟨rfl,List.eq_nil_of_length_eq_zero h0⟩
 ·obtain⟨a,b0,e,_,_,hx⟩:=hr
  injection e with e1 e2 e3
  subst e1 e3
  refine .inr ⟨g,0,a0,c0,rfl,hg,hn,hc,by rw [Nat.zero_add];exact hs,fun j hj=>?_⟩
  obtain⟨b,off,e,hh⟩:=hx (by omega)
  injection e with e
  injection e with e1 e2
  subst e1 e2
  exact hh j hj
theorem Zd2 {g:Nat} {E:TypeId} {w:World} {cur:Array Value} (h:w.heap[g]?=some (.cells cur E (0,0))) (o:Nat) (vs:List Value) (hs:o+vs.length≤cur.size) :
  ∃ cur',(w.setCells g o vs).heap[g]?=some (.cells cur' E (0,0))∧cur'.size=cur.size∧(∀ q,q<o→cur'[q]?=cur[q]?)∧∀ j u,vs[j]?=some u→cur'[o+j]?=some u:=by
 obtain⟨⟨cur',h1,h2,h3⟩,_⟩:=Z1v (E:=E) vs o w cur h
 refine⟨cur',h1,h2,h3,fun j u hu=>?_⟩
 have hj:j<vs.length:=(List.getElem?_eq_some_iff.1 hu).1
 have:=World.cell?_setCells_in g vs o w (fun q hq=>by rw [Z00 h,Array.getElem?_eq_getElem (by omega)];rfl) j hj
 rw [Z00 h1] at this
 rw [this]
 exact hu ▸ (List.getElem?_eq_getElem hj).symm
section
variable {P:Program} {α:Type}
theorem run_rowO (w:World) (S:Shp α) (t ty:TypeId) (e:TypeId) (i:TypeInfo) (z:Value) (bytes:Nat) (ht:P.underlying t=some (.slice e)) (hi:P.info? e=some i) (hz:i.zero=some z)
  (hsize:i.size=S.size) (hby:i.bytes=bytes) (hzs:z.cells.size=S.size)
  (v:Value) (l:List α) (h:rowO S w e v l) (x:α) (a:Addr) (c:Nat) (hx:∀ j u,(S.cells x)[j]?=some u→w.cell? (a.add j)=some u)
  (h63:l.length+1≤maxLen) (hbytes:(l.length+1)*bytes≤140737488355328) :
  ∃ v' w',(Builtin.append_ #[t,t] ty #[v, .slice (some a) 1 c]).run P w=.ok v' w'∧rowO S w' e v' (l++[x])∧Chg (fun k=>v.ownBlock=some k) w w'∧∀ k,v'.ownBlock=some k→v.ownBlock=some k∨w.heap.size≤k:=by
 have hp:=S.pos
 have h1:∀ u ∈ S.cells x,u.oneCell'=true:=S.one x
 rcases h with ⟨rfl,rfl⟩ | ⟨g,off,c0,f0,rfl,hg,hn,hM,hs,hc⟩
 ·obtain⟨v',w',a0,r1,r2,_⟩:=run_append_own (P:=P) w w.heap.size t ty e i z S.size bytes ht hi hz hsize hby hzs hp (.slice none 0 0) 0 [] (World.ownsRow_nil w _ e S.size) a 1 c (S.cells x) (by rw [S.len,Nat.one_mul]) hx h1 h63 hbytes (Nat.le_refl _)
  have ho:ownG S w' w.heap.size e v' ([]++[x]):=by
   unfold ownG Z1h
   simpa using r1
  refine⟨v',w',a0,Zeh ho,⟨r2.os,r2.tape,r2.output,r2.size,fun k hk hF=>r2.block k hk (fun e=>by cases e)⟩,fun k hk=>.inr (ho.lt S k hk).1⟩
 ·by_cases hr:l.length+1≤c0
  ·have j0:off+(l.length+1)*S.size≤f0.size:=by rw [hs];exact Nat.add_le_add_left (Nat.mul_le_mul_right _ hr) _
   rw [Nat.add_mul,Nat.one_mul] at j0
   have a0:=run_append_room_cells (P:=P) w t ty e i ht hi g off l.length c0 a 1 c (S.cells x) (by rw [S.len,Nat.one_mul,hsize]) hx h1 hr
    (fun j hj=>by rw [S.len] at hj;rw [hsize,Z00 hg,Array.getElem?_eq_getElem (by omega)];rfl) (fun j hj=>Z03 hg _)
   rw [hsize] at a0
   obtain⟨d0,k1,k2,k3,k4⟩:=Zd2 hg (off+l.length*S.size) (S.cells x) (by rw [S.len];omega)
   have i0:=(Z1v (E:=e) (S.cells x) (off+l.length*S.size) w f0 hg).2
   refine⟨_,_,a0, .inr ⟨g,off,c0,d0,by rw [List.length_append];rfl,k1,by rw [List.length_append];exact hr,hM,by rw [k2,hs],fun j hj=>?_⟩,i0.mono fun k _ e=>by rw [show k=g from e];rfl,fun k hk=>.inl hk⟩
   rw [List.length_append,List.length_singleton] at hj
   intro q u hu
   rw [Z00 k1]
   have hq:q<S.size:=by
    have:=(List.getElem?_eq_some_iff.1 hu).1
    rw [S.len] at this;exact this
   by_cases b0:j<l.length
   ·rw [List.getElem_append_left b0] at hu
    have:=hc j b0 q u hu
    rw [Z00 hg] at this
    have h9:(j+1)*S.size≤l.length*S.size:=Nat.mul_le_mul_right _ b0
    rw [Nat.add_mul,Nat.one_mul] at h9
    rw [k3 _ (by omega)]
    exact this
   ·obtain rfl:j=l.length:=by omega
    rw [List.getElem_append_right (Nat.le_refl _)] at hu
    simp only [Nat.sub_self,List.getElem_cons_zero] at hu
    exact k4 q u hu
  ·obtain⟨v',w',a0,r1,r2⟩:=run_append_arg_grows (P:=P) w t ty e i z S.size bytes ht hi hz hsize hby hzs hp ⟨g,off,none⟩ l.length c0 (Z1h S l) (Z2u S l) (fun j u hj=>by
     have e0:(⟨g,off,none⟩:Addr).add j=⟨g,off+j,none⟩:=Addr.add_lit ..
     rw [e0]
     have b0:j<l.length*S.size:=by
      have:=(List.getElem?_eq_some_iff.1 hj).1
      rw [Z2u] at this;exact this
     have hq:j / S.size<l.length:=Nat.div_lt_of_lt_mul (by rw [Nat.mul_comm];exact b0)
     have hm:j % S.size<S.size:=Nat.mod_lt _ hp
     have g0:j / S.size*S.size+j % S.size=j:=by rw [Nat.mul_comm];exact Nat.div_add_mod j S.size
     have h0:=Z3d S l (j / S.size) hq (j % S.size) hm
     rw [g0,hj] at h0
     have:=hc (j / S.size) hq (j % S.size) u h0.symm
     rw [Nat.add_assoc,g0] at this
     exact this) a 1 c (S.cells x) (by rw [S.len,Nat.one_mul]) hx (by omega) h63 hbytes
   have ho:ownG S w' w.heap.size e v' (l++[x]):=by
    unfold ownG
    rw [List.length_append,Z1u]
    exact r1
   refine⟨v',w',a0,Zeh ho,⟨r2.os,r2.tape,r2.output,r2.size,fun k hk hF=>r2.block k hk (fun e=>by cases e)⟩,fun k hk=>.inr (ho.lt S k hk).1⟩
theorem wp_rowO (w:World) {o:Oper} {a:Act} {K:Act→World→Prop} {Q:Exit→Act→World→Prop} (S:Shp α) (s x:Operand) (t:TypeId)
  (ho:o.op=.call { callee:=.builtin .append,args:=#[s,x],argTypes:=#[t,t] })
  (e:TypeId) (i:TypeInfo) (z:Value) (bytes:Nat) (ht:P.underlying t=some (.slice e)) (hi:P.info? e=some i) (hz:i.zero=some z)
  (hsize:i.size=S.size) (hby:i.bytes=bytes) (hzs:z.cells.size=S.size)
  (v:Value) (l:List α) (hs:a.eval s=v) (hr:rowO S w e v l) (y:α) (ad:Addr) (c:Nat) (hx:a.eval x=.slice (some ad) 1 c) (hy:∀ j u,(S.cells y)[j]?=some u→w.cell? (ad.add j)=some u)
  (h63:l.length+1≤maxLen) (hbytes:(l.length+1)*bytes≤140737488355328)
  (h:∀ v' w',rowO S w' e v' (l++[y])→Chg (fun k=>v.ownBlock=some k) w w'→(∀ k,v'.ownBlock=some k→v.ownBlock=some k∨w.heap.size≤k)→K (a.put o.dst v') w'):o.wp P a w K Q:=by
 obtain⟨v',w',hr,h2,h3,h4⟩:=run_rowO (P:=P) w S t o.type e i z bytes ht hi hz hsize hby hzs v l hr y ad c hy h63 hbytes
 unfold Oper.wp execOp
 simp only [ho,resolve,invoke,builtin,Sem.run_bind,Sem.run_pure,Result.andThen_ok,List.map_toArray,List.map_cons,List.map_nil,hs,hx,hr]
 exact h v' w' h2 h3 h4
end
theorem infoPq:(Tryz.prog.info? 205).map (fun i=>(i.zero,i.size,i.bytes))=some (some (.agg #[.int .i64 0, .int .i64 0]),2,16):=by kernel_rfl
end
section
open Go.RowKit
theorem Zj4 (b:Nat) (p:Pf) (F:Nat→Prop) (clock:Int) (w:World) (h:pfO w F b p) (hq0:0≤p.num) (hq1:p.num<4611686018427387904) (hl:p.asked.length≤1000000) :
  Calls Tryz.prog 133 #[.pointer (some ⟨b,0,none⟩), .int .i64 clock] w fun r w'=>r=.returned (.int .i64 (p.num+1))∧(∃ F',pfO w' F' b (p.ask clock)∧∀ k,F' k→F k∨w.heap.size≤k∧k<w'.heap.size)∧Chg F w w':=by
 obtain⟨i0,hi,p2,q2,r2⟩:=info_parts infoPq
 replace hi:=hd_ hi
 obtain⟨d2,v,hb,hv,hr⟩:=h
 have f1:=pfO.ne (F:=F) hb hr
 obtain⟨n,as_,hs,bn,bc,co⟩:=p
 dsimp only at *
 obtain⟨W1,o0⟩:∃ W1,W1=w.setCell ⟨b,0,none⟩ (.int .i64 (n+1)):=⟨_,rfl⟩
 have y0:Chg (fun k=>k=b) w W1:=o0 ▸ Z06 (Chg.refl _ _) rfl
 have l1:W1.heap[b]?=some (.cells #[.int .i64 (n+1),v, .bool hs, .int .i64 bn, .int .i64 bc, .int .i64 co] 207 (0,0)):=o0 ▸ Z0d hb
 have w1:rowO Z99 W1 205 v as_:=hr.same fun q hq hlt=>y0.block q hlt (f1 q hq)
 have c0:w.cell? ⟨b,0,none⟩=some (.int .i64 n):=Z00 hb 0
 have z0:=Z03 hb 0
 have lb:=Z04 hb
 have m0:¬ v.ownBlock=some b:=fun e=>f1 b e rfl
 have y1:∃ ad cp,v=.slice ad as_.length cp:=hr.rd.len
 replace f1:=hd_ f1;replace hb:=hd_ hb;replace hr:=hd_ hr;replace y0:=hd_ y0;replace l1:=hd_ l1;replace w1:=hd_ w1;replace hv:=hd_ hv;replace y1:=hd_ y1
 go_enter Tryz.func133,Tryz.ntmps133
 go_upto_region 4 with (fail)
 rw [← o0]
 replace o0:=hd_ o0;clear c0 z0 lb
 refine Z05 (fun c=>v.ownBlock=some c) (.q 0 (.q 1 (.q 2 (.q 3 (.q 4 (.q 5 (.q 6 (.q 7 (.q 8 (.q 9 (.l 10 (.l 11 (.l 12 (.q 13 (.q 14 (.cut (.l 15 .fin))))))))))))))))) (by kernel_rfl) (by kernel_rfl) ?_
 intro w2 g2 t0
 have d0:=Z02 l1.out t0
 have u0:=Z01 (F:=fun c=>v.ownBlock=some c) (b:=w2) m0 (show w2.cell? ⟨b,0,none⟩=some (.int .i64 (n+1)) from Z00 d0 0)
 have u1:=Z01 (F:=fun c=>v.ownBlock=some c) (b:=w2) m0 (show w2.cell? ⟨b,1,none⟩=some v from Z00 d0 1)
 have l2:=hd_ (w1.out.same fun q hq hlt=>t0.block q hlt)
 have b2:=hd_ (y0.out.on t0)
 replace d0:=hd_ d0;replace g2:=hd_ g2;replace t0:=hd_ t0;iterate 10 (refine Z0n rfl ?_;go_big_quiet_step (fail);refine wpQuiet_nil ?_)
 clear u0 u1;refine Z0j rfl (by kernel_rfl) ?_;intro K1 hK;go_simp
 refine hK _ _ (Chg.refl _ _) ?_
 clear hK K1;refine Z0j rfl (by kernel_rfl) ?_;intro K1 hK;go_simp
 obtain⟨W3,p0⟩:∃ W3,W3=w2.alloc (.cells #[.int .i64 (n+1), .int .i64 clock] 205):=⟨_,rfl⟩
 have h1:W3.heap[w2.heap.size]?=some (.cells #[.int .i64 (n+1), .int .i64 clock] 205 (0,0)):=p0 ▸ Z0a _ _
 have n0:Below w2.heap.size w2 W3:=p0 ▸ (Below.refl _ _).alloc (Nat.le_refl _) _
 have m2:=hd_ (l2.out.same fun q hq hlt=>n0.block q hlt)
 obtain⟨nc,e1⟩:∃ nc,nc=w2.heap.size:=⟨_,rfl⟩
 rw [← p0,← e1]
 rw [← e1] at h1
 have hy:∀ j u,(Z99.cells (n+1,clock))[j]?=some u→W3.cell? ((⟨nc,0,none⟩:Addr).add j)=some u:=fun j u hu=>by
  have e:(⟨nc,0,none⟩:Addr).add j=⟨nc,j,none⟩:=by rw [Addr.add_lit,Nat.zero_add]
  rw [e,Z00 h1]
  simpa [Z99] using hu
 replace p0:=hd_ p0;replace e1:=hd_ e1;replace h1:=hd_ h1;replace hy:=hd_ hy
 refine hK _ _ (Chg.of_below n0) ?_
 clear hK K1
 have i2:=hi.out
 refine Z0j rfl (by kernel_rfl) ?_;intro K1 hK
 refine wp_rowO _ Z99 (.tmp 18) (.tmp 25) 203 rfl 205 i0 (.agg #[.int .i64 0, .int .i64 0]) 16 Tryz.underlying203 i2 p2 q2 r2 rfl v as_ rfl m2.out (n+1,clock) ⟨nc,0,none⟩ 1 rfl hy.out (by unfold maxLen;omega) (by omega) ?_
 intro v4 w4 g1 a1 l0
 obtain⟨ad4,b0,o2⟩:=g1.rd.len
 subst o2
 have e0:=Z0g (Z02 d0.out n0) a1 m0
 have i1:Chg (fun k=>k=b∨v.ownBlock=some k) w w4:=((b2.out.mono fun k _ e=>.inl e).on n0).more a1 fun i e=>.inl (.inr e)
 have j0:∀ k,(Value.slice ad4 (as_++[(n+1,clock)]).length b0).ownBlock=some k→k≠b:=fun k hk e=>by
  rcases l0 k hk with h | h
  ·exact m0 (by rw [h,e])
  ·have:=Z04 (Z02 d0.out n0);omega
 have q1:w4.cell? ⟨b,1,none⟩=some v:=Z00 e0 1
 have z1:=Z03 e0 1
 have s2:=Z04 e0
 have e2:Chg (fun c=>v.ownBlock=some c) w2 w4:=(Chg.of_below n0).more a1 fun i e=>.inl e
 replace e0:=hd_ e0;replace g1:=hd_ g1;replace i1:=hd_ i1;replace j0:=hd_ j0;replace l0:=hd_ l0
 obtain⟨adv,cpv,a2⟩:=y1.out
 rw [a2] at q1
 replace a2:=hd_ a2;clear i2 a1;go_simp
 refine hK _ _ e2 ?_
 clear hK K1 e2;iterate 2 (refine Z0n rfl ?_;go_big_quiet_step (fail);refine wpQuiet_nil ?_)
 refine Z0h Z1j ?_;refine Z0j rfl (by kernel_rfl) ?_;intro K1 hK;go_simp
 refine hK _ _ (Z06 (Chg.refl _ _) trivial) ?_
 clear hK K1;refine Z0c ?_
 obtain⟨N,hN⟩:∃ N,N=as_.length+1:=⟨_,rfl⟩
 have k1:(as_++[(n+1,clock)]).length=N:=by rw [hN,List.length_append];rfl
 have x1:=g1.out
 rcases x1 with ⟨_,h0⟩ | ⟨g,off,cap,j2,n2,c1,o1,k2,r1,p1⟩
 ·exact absurd h0 (by simp)
 injection n2 with z1 z2 z3
 subst z1 z3
 rw [k1] at o1
 unfold maxLen at k2
 have f2:g≠b:=j0.out g rfl
 rw [← hN]
 obtain⟨W5,r0⟩:∃ W5,W5=w4.setCell ⟨b,1,none⟩ (.slice (some ⟨g,off,none⟩) N b0):=⟨_,rfl⟩
 have m1:W5.heap[b]?=some (.cells #[.int .i64 (n+1), .slice (some ⟨g,off,none⟩) N b0, .bool hs, .int .i64 bn, .int .i64 bc, .int .i64 co] 207 (0,0)):=r0 ▸ Z0d e0.out
 have b1:Chg (fun k=>k=b) w4 W5:=r0 ▸ Z06 (Chg.refl _ _) rfl
 have t1:=Z0g c1 b1 f2
 have j1:Chg (fun k=>k=b∨v.ownBlock=some k) w W5:=i1.out.more b1 fun i e=>.inl (.inl e)
 rw [← r0]
 replace r0:=hd_ r0;replace m1:=hd_ m1;replace t1:=hd_ t1;replace j1:=hd_ j1;replace c1:=hd_ c1;replace p1:=hd_ p1;replace r1:=hd_ r1;replace b1:=hd_ b1
 have hNN:=hd_ hN
 have k0:=hd_ k1
 have hN1:1≤N:=by omega
 have hN2:N≤1000001:=by omega
 clear hN k1 q1 z1 s2
 obtain⟨kk,v1⟩:∃ kk,kk=N-64:=⟨_,rfl⟩
 have hk1:max 0 ((N:Int)-64)=(kk:Int):=by omega
 have hk2:kk<N:=by omega
 have hk3:¬ b0=kk:=by omega
 have hk4:¬ kk=b0:=by omega
 replace v1:=hd_ v1;go_upto_region 5 with (fail)
 refine Z05 (fun _=>False) (.q 0 (.q 1 (.q 2 (.q 3 (.q 4 (.q 5 (.q 6 (.q 7 (.q 8 (.q 9 (.q 10 (.q 11 (.q 12 (.q 13 (.q 14 (.cut (.l 15 .fin))))))))))))))))) (by kernel_rfl) (by kernel_rfl) ?_
 intro w6 h2 v0
 have a0:=Z02 m1.out v0
 have u1:=Z01 (F:=fun _=>False) (b:=w6) (fun h=>h) (show w6.cell? ⟨b,1,none⟩=some (.slice (some ⟨g,off,none⟩) N b0) from Z00 a0 1)
 have q1:w6.cell? ⟨b,1,none⟩=some (.slice (some ⟨g,off,none⟩) N b0):=Z00 a0 1
 have z1:=Z03 a0 1
 have t2:=Z04 a0
 replace a0:=hd_ a0;replace h2:=hd_ h2;replace v0:=hd_ v0;iterate 15 (refine Z0n rfl ?_;go_big_quiet_step (fail);refine wpQuiet_nil ?_)
 clear u1;refine Z0h Z1j ?_;refine Z0j rfl (by kernel_rfl) ?_;intro K1 hK;go_simp
 refine hK _ _ (Z06 (Chg.refl _ _) trivial) ?_
 clear hK K1;refine Z0c ?_
 obtain⟨W7,s0⟩:∃ W7,W7=w6.setCell ⟨b,1,none⟩ (.slice (some ⟨g,off+kk*2,none⟩) (N-kk) (b0-kk)):=⟨_,rfl⟩
 have x0:W7.heap[b]?=some (.cells #[.int .i64 (n+1), .slice (some ⟨g,off+kk*2,none⟩) (N-kk) (b0-kk), .bool hs, .int .i64 bn, .int .i64 bc, .int .i64 co] 207 (0,0)):=s0 ▸ Z0d a0.out
 have n1:Chg (fun k=>k=b) w6 W7:=s0 ▸ Z06 (Chg.refl _ _) rfl
 have d1:=Z0g (Z02 t1.out v0.out) n1 f2
 have c2:Chg (fun k=>k=b∨v.ownBlock=some k) w W7:=(j1.out.on v0.out).more n1 fun i e=>.inl (.inl e)
 have f0:Z56 (as_++[(n+1,clock)])=(as_++[(n+1,clock)]).drop kk:=by unfold Z56;rw [k0.out,v1.out]
 have g0:(Z56 (as_++[(n+1,clock)])).length=N-kk:=by rw [f0,List.length_drop,k0.out]
 have w0:rowO Z99 W7 205 (.slice (some ⟨g,off+kk*2,none⟩) (N-kk) (b0-kk)) (Z56 (as_++[(n+1,clock)])):=by
  refine .inr ⟨g,off+kk*2,b0-kk,j2,by rw [g0],d1,by rw [g0];omega,by unfold maxLen;omega,?_,fun j hj=>?_⟩
  ·rw [r1.out]
   show off+b0*2=off+kk*2+(b0-kk)*2
   omega
  ·rw [g0] at hj
   intro c u hu
   have hx:(Z56 (as_++[(n+1,clock)]))[j]'(by rw [g0];exact hj)=(as_++[(n+1,clock)])[kk+j]'(by rw [k0.out];omega):=by
    simp only [f0,List.getElem_drop]
   rw [hx] at hu
   have:=p1.out (kk+j) (by rw [k0.out];omega) c u hu
   rw [Z00 c1.out] at this
   rw [Z00 d1,← this]
   congr 1
   show off+kk*2+j*2+c=off+(kk+j)*2+c
   omega
 have s1:Hid ((∃ F',pfO W7 F' b ((⟨n,as_,hs,bn,bc,co⟩:Pf).ask clock)∧∀ k,F' k→F k∨w.heap.size≤k∧k<W7.heap.size)∧Chg F w W7):=hd_ (by
  refine⟨⟨fun k=>k=b∨k=g,⟨.inl rfl,_,x0,fun k hk=>.inr (by cases hk;rfl),w0⟩,fun k hk=>?_⟩,c2.mono fun k _ e=>?_⟩
  ·rcases hk with rfl | rfl
   ·exact .inl d2
   ·rcases l0.out k rfl with h | h
    ·exact .inl (hv.out k h)
    ·have:=b2.out.size
     have:=n0.size
     exact .inr ⟨by omega,Z04 d1⟩
  ·rcases e with rfl | e
   ·exact d2
   ·exact hv.out k e)
 have q0:W7.cell? ⟨b,0,none⟩=some (.int .i64 (n+1)):=Z00 x0 0
 have lb7:=Z04 x0
 rw [← s0]
 replace s0:=hd_ s0;clear x0 n1 d1 c2 f0 g0 w0 q1 z1 t2;go_wp2
 go_ret
 exact⟨rfl,s1.out⟩
end
section
open Go.RowKit
abbrev ent0:Ent:=⟨0,0,0,0,0,0,ByteArray.empty⟩
theorem Z62 (b:Nat) (l:List Ent) (w:World) (hr:rdLog w b l) (hl:l.length≤1000) :
  Calls Tryz.prog 182 #[.pointer (some ⟨b,0,none⟩), .int .i64 l.length] w fun r w'=>r=.returned (.tuple #[(l.getLast?.getD ent0).val, .bool (!l.isEmpty)])∧Below w.heap.size w w':=by
 obtain⟨W,hW⟩:∃ W,W=w.alloc (.cells #[.int .i64 0, .int .i64 0, .int .i64 0, .int .i64 0, .int .i64 0, .int .i64 0, .string ⟨#[]⟩] 134):=⟨_,rfl⟩
 have hB:Below w.heap.size w W:=hW ▸ (Below.refl _ _).alloc (Nat.le_refl _) _
 obtain⟨nb,b0⟩:∃ nb,nb=w.heap.size:=⟨_,rfl⟩
 have hx:W.heap[nb]?=some (.cells #[.int .i64 0, .int .i64 0, .int .i64 0, .int .i64 0, .int .i64 0, .int .i64 0, .string ⟨#[]⟩] 134 (0,0)):=hW ▸ b0 ▸ Z0a _ _
 have g0:rdLog W b l:=hr.grow hB
 have hlt:=Z04 hx
 have x0:=Z00 hx 0
 have x1:=Z00 hx 1
 have x2:=Z00 hx 2
 have x3:=Z00 hx 3
 have x4:=Z00 hx 4
 have x5:=Z00 hx 5
 have x6:=Z00 hx 6
 have z0:=Z03 hx 0
 have z1:=Z03 hx 1
 have z2:=Z03 hx 2
 have z3:=Z03 hx 3
 have z4:=Z03 hx 4
 have z5:=Z03 hx 5
 have z6:=Z03 hx 6
 simp only [List.getElem?_toArray,List.getElem?_cons_zero,List.getElem?_cons_succ] at x0 x1 x2 x3 x4 x5 x6
 have c0:∀ a0 a1 a2 a3 a4 a5 a6,Below w.heap.size w (((((((W.setCell ⟨nb,0,none⟩ a0).setCell ⟨nb,1,none⟩ a1).setCell ⟨nb,2,none⟩ a2).setCell ⟨nb,3,none⟩ a3).setCell ⟨nb,4,none⟩ a4).setCell ⟨nb,5,none⟩ a5).setCell ⟨nb,6,none⟩ a6):=fun a0 a1 a2 a3 a4 a5 a6=>
  ((((((hB.setCell (Nat.le_of_eq b0.symm) _).setCell (Nat.le_of_eq b0.symm) _).setCell (Nat.le_of_eq b0.symm) _).setCell (Nat.le_of_eq b0.symm) _).setCell (Nat.le_of_eq b0.symm) _).setCell (Nat.le_of_eq b0.symm) _).setCell (Nat.le_of_eq b0.symm) _
 replace c0:=hd_ c0;replace hW:=hd_ hW;replace b0:=hd_ b0;replace hB:=hd_ hB;replace hx:=hd_ hx
 rcases Nat.eq_zero_or_pos l.length with h0 | h0
 ·have i0:l=[]:=List.eq_nil_of_length_eq_zero h0
  subst i0;replace h0:=hd_ h0;replace g0:=hd_ g0
  go_enter Tryz.func182,Tryz.ntmps182
  go_upto_region 1 with (fail)
  rw [← hW.out,← b0.out]
  go_wp2
  exact bodyPost_ret (v:=.tuple #[ent0.val, .bool false]) (by simp [results,Tryz.results182,go_sem,x0,x1,x2,x3,x4,x5,x6];rfl) rfl ⟨rfl,c0.out _ _ _ _ _ _ _⟩
 ·obtain⟨l',x,rfl⟩:∃ l' x,l=l'++[x]:=⟨l.dropLast,l.getLast (by intro e;rw [e] at h0;simp at h0),(List.dropLast_concat_getLast _).symm⟩
  have hL:((l'++[x]).getLast?.getD ent0)=x:=by simp
  have hE:(!(l'++[x]).isEmpty)=true:=by simp
  rw [hL,hE]
  clear hL hE
  obtain⟨n,hn⟩:∃ n,n=(l'++[x]).length:=⟨_,rfl⟩
  have j0:l'.length+1=n:=by rw [hn,List.length_append];rfl
  have e0:=hd_ (Z0m b (l'++[x]) W g0)
  rw [← hn] at e0 h0 hl ⊢
  obtain⟨v,hv,l0⟩:=g0
  obtain⟨a,cap,rfl,hm,hM,ha⟩:=l0
  rw [← hn] at hm hv
  unfold maxLen at hM
  obtain⟨g,off,rfl,hc⟩:=ha (by rw [← hn];exact h0)
  have f0:=hc l'.length (by rw [← hn];omega)
  rw [List.getElem_append_right (Nat.le_refl _)] at f0
  simp only [Nat.sub_self,List.getElem_cons_zero] at f0
  have hlv:=Z0f hv
  rw [show l'.length=n-1 by omega] at f0
  obtain⟨d0,d1,d2,d3,d4,d5,d6⟩:=f0
  have hz1:decide ((n:Int)<1)=false:=decide_eq_false (by omega)
  have hz2:decide ((n:Int)<(n:Int))=false:=decide_eq_false (by omega)
  have k0:((n:Int)-1).toNat=n-1:=by omega
  replace hn:=hd_ hn;replace j0:=hd_ j0;clear hc ha
  go_enter Tryz.func182,Tryz.ntmps182
  go_upto_region 1 with (fail)
  rw [← hW.out,← b0.out]
  go_wp2_with fail
  refine e0.out.mono ?_
  rintro r wx ⟨rfl,rfl⟩;go_wp2
  exact bodyPost_ret (v:=.tuple #[x.val, .bool true]) (by simp [results,Tryz.results182,go_sem,x0,x1,x2,x3,x4,x5,x6]) rfl ⟨rfl,c0.out _ _ _ _ _ _ _⟩
end
section
open Go.RowKit
def okQ (o:Option Qd) (id hv:Int):Bool:=match o with | some q=>q.okAck id hv | none=>false
def Zj5 (o:Option Qd):Int:=match o with | some q=>q.last | none=>0
def Z9i (o:Option Qd) (id:Int):Int:=match o with | some q=>q.have_ id | none=>0
def Zj6 (o:Option Qd):Int:=match o with | some q=>q.last+1 | none=>0
def comQ (o:Option Qd):Int:=match o with | some q=>medQ q.H q.n | none=>0
def prbQ (o:Option Qd):Int:=match o with | some q=>medQ q.P q.n | none=>0
def Zd3 (s:Nd):Prop:=∀ q,s.q=some q→q.n=s.n∧q.me=s.id∧0≤q.mem∧q.mem<128∧0≤q.last
section
variable {own:Nat→Nat} {K:Nat} {w:World} {a:NdAt} {s:Nd} {out:List MsS}
theorem NdO.qn (h:NdO own K w a s out) (hq:s.q=none):a.qb=none:=by
 have:=h.r.qm
 rw [hq] at this
 cases hb:a.qb with
 | none=>rfl
 | some b=>rw [hb] at this;exact this.elim
theorem NdO.qs (h:NdO own K w a s out) {q:Qd} (hq:s.q=some q):∃ b,a.qb=some b∧own b=K+10∧qO w b q.n q.mem q.me q.H q.P q.last:=by
 have:=h.r.qm
 rw [hq] at this
 cases hb:a.qb with
 | none=>rw [hb] at this;exact this.elim
 | some b=>rw [hb] at this;exact⟨b,rfl,this⟩
theorem NdO.setQ (h:NdO own K w a s out) {b:Nat} (ha:a.qb=some b) (hob:own b=K+10) (q:Qd) {w':World} (hc:Chg (fun k=>k=b) w w') (hq:qO w' b q.n q.mem q.me q.H q.P q.last):NdO own K w' a { s with q:=some q } out∧Turn (fun o=>o=K+10) own own w w':=by
 have t:Turn (fun o=>o=K+10) own own w w':=.same (hc.mono fun k _ e=>by rw [show k=b from e];exact hob) h.wf
 have e:=h.r.putQ (t.mono (J':=fun o=>o=K∨o=K+10) fun o e=>.inr e) (b:=b) (q:=q) ⟨hob,hq⟩
 rw [show ({ a with qb:=some b }:NdAt)=a by rw [← ha]] at e
 exact⟨⟨t.pub h.blk (by rw [h.r.ob];have:=h.r.k16;omega),h.ears,e⟩,t⟩
theorem Z5c {T:Nat} (hT:T<128) {k:Int} (h:Z18 T k=true):1≤k∧k≤7:=Decidable.byContradiction fun hn=>by
 rw [hasT_out T hn] at h
 cases h
theorem Zj7 (a:Int):∀ l1 l2:List Int,(∀ b ∈ l1,¬ a≤b)→(∀ b ∈ l2,a≤b)→insI a (l1++l2)=l1++a :: l2
 | [],l2,_,h2=>by
   cases l2 with
   | nil=>rfl
   | cons y l=>show (if a≤y then a :: y :: l else y :: insI a l)=_;rw [if_pos (h2 y (List.mem_cons_self ..))];rfl
 | b :: l1,l2,h1,h2=>by
   show (if a≤b then _ else b :: insI a (l1++l2))=_
   rw [if_neg (h1 b (List.mem_cons_self ..)),Zj7 a l1 l2 (fun c hc=>h1 c (List.mem_cons_of_mem _ hc)) h2]
   rfl
theorem Zei:∀ l:List Int,Zag l=Z27 l
 | []=>by unfold Z27;simp [Zag]
 | x :: l=>by
   show insI x (Zag l)=Z27 (x :: l)
   rw [Zei l]
   obtain⟨l1,l2,h1,h2,h3⟩:=List.mergeSort_cons (le:=fun x y:Int=>decide (x≤y)) (fun a b c h1 h2=>by simp at h1 h2 ⊢;omega) (fun a b=>by simp;omega) x l
   have hs:=Zae (x :: l)
   unfold Z27 at hs ⊢
   rw [h1] at hs ⊢
   rw [h2]
   refine Zj7 x l1 l2 (fun b hb e=>?_) (fun b hb=>?_)
   ·have:=h3 b hb
    simp at this
    omega
   ·have:=(List.pairwise_append.1 hs).2.1
    exact (List.pairwise_cons.1 this).1 b hb
theorem med_eq (H:List Int) (n:Int):medQ H n=medS H n.toNat:=by unfold medQ medS;rw [Zei]
theorem Zj8 (h:NdO own K w a s out) (hqd:Zd3 s) (id hv pr:Int) :
  Calls Tryz.prog 177 #[Z3f a.qb, .int .i64 id, .int .i64 hv, .int .i64 pr] w fun r w'=>r=.returned (.bool (okQ s.q id hv))∧NdO own K w' a { s with q:=s.q.map fun q=>q.ack id hv pr } out∧Turn (fun o=>o=K+10) own own w w':=by
 cases hq:s.q with
 | none=>
   rw [h.qn hq]
   refine (Ze4 id hv pr w).mono ?_
   rintro r w' ⟨rfl,rfl⟩
   have e:({ s with q:=Option.map (fun q:Qd=>q.ack id hv pr) none }:Nd)=s:=by rw [Option.map_none,← hq]
   rw [e]
   exact⟨rfl,h, .same (Chg.refl _ _) h.wf⟩
 | some q=>
   obtain⟨b,ha,b0,a0⟩:=h.qs hq
   obtain⟨_,_,m0,m1,_⟩:=hqd q hq
   rw [ha]
   cases hok:q.okAck id hv with
   | false=>
     refine (Zi1 b q.n q.mem q.me q.H q.P q.last id hv pr w a0 ⟨m0,m1⟩ hok).mono ?_
     rintro r w' ⟨rfl,rfl⟩
     have e1:q.ack id hv pr=q:=by unfold Qd.ack;rw [hok];rfl
     have e:({ s with q:=Option.map (fun q:Qd=>q.ack id hv pr) (some q) }:Nd)=s:=by rw [Option.map_some,e1,← hq]
     rw [e]
     exact⟨by show _=Ending.returned (.bool (q.okAck id hv));rw [hok],h, .same (Chg.refl _ _) h.wf⟩
   | true=>
     have hk:=hok
     unfold Qd.okAck at hk
     simp only [Bool.and_eq_true,decide_eq_true_eq] at hk
     obtain⟨⟨k1,k2⟩,k3⟩:=hk
     obtain⟨r1,r2⟩:=Z5c (by omega) k1
     obtain⟨i,rfl⟩:=Int.eq_ofNat_of_zero_le (show 0≤id by omega)
     refine (Ze2 b q.n q.mem q.me q.H q.P q.last i hv pr w a0 ⟨m0,m1⟩ k1 (by omega) (by omega) k2 k3).mono ?_
     rintro r w' ⟨rfl,c0,hc⟩
     have e1:q.ack (i:Int) hv pr={ q with H:=q.H.set i (max (q.H.getD i 0) hv),P:=ackP q.P i pr q.last }:=by unfold Qd.ack;rw [hok];rfl
     obtain⟨h2,t2⟩:=h.setQ ha b0 { q with H:=q.H.set i (max (q.H.getD i 0) hv),P:=ackP q.P i pr q.last } hc c0
     refine⟨by show _=Ending.returned (.bool (q.okAck (i:Int) hv));rw [hok],?_,t2⟩
     rw [Option.map_some,e1]
     exact h2
theorem ndQLast (h:NdO own K w a s out):Calls Tryz.prog 205 #[Z3f a.qb] w fun r w'=>r=.returned (.int .i64 (Zj5 s.q))∧w=w':=by
 cases hq:s.q with
 | none=>rw [h.qn hq];exact Zi7 w
 | some q=>
   obtain⟨b,ha,hob,a0⟩:=h.qs hq
   rw [ha]
   exact Zi2 b q.n q.mem q.me q.H q.P q.last w a0
theorem ndQHave (h:NdO own K w a s out) (hqd:Zd3 s) (id:Int):Calls Tryz.prog 136 #[Z3f a.qb, .int .i64 id] w fun r w'=>r=.returned (.int .i64 (Z9i s.q id))∧w=w':=by
 cases hq:s.q with
 | none=>rw [h.qn hq];exact Zi5 id w
 | some q=>
   obtain⟨b,ha,hob,a0⟩:=h.qs hq
   obtain⟨_,_,m0,m1,_⟩:=hqd q hq
   rw [ha]
   show Calls _ _ _ _ fun r w'=>r=.returned (.int .i64 (q.have_ id))∧w=w'
   unfold Qd.have_
   cases hh:Z18 q.mem.toNat id with
   | false=>exact qHave_no b q.n q.mem q.me q.H q.P q.last id w a0 ⟨m0,m1⟩ hh
   | true=>
     obtain⟨r1,r2⟩:=Z5c (by omega) hh
     obtain⟨i,rfl⟩:=Int.eq_ofNat_of_zero_le (show 0≤id by omega)
     exact Zi3 b q.n q.mem q.me q.H q.P q.last i w a0 ⟨m0,m1⟩ hh (by omega)
theorem ndQNext (h:NdO own K w a s out) (hqd:Zd3 s) (hi:1≤s.id∧s.id≤7) (hl:∀ q,s.q=some q→q.last<4611686018427387904) :
  Calls Tryz.prog 132 #[Z3f a.qb] w fun r w'=>r=.returned (.int .i64 (Zj6 s.q))∧NdO own K w' a { s with q:=s.q.map Qd.next } out∧Turn (fun o=>o=K+10) own own w w':=by
 cases hq:s.q with
 | none=>
   rw [h.qn hq]
   refine (Zi6 w).mono ?_
   rintro r w' ⟨rfl,rfl⟩
   have e:({ s with q:=Option.map Qd.next none }:Nd)=s:=by rw [Option.map_none,← hq]
   rw [e]
   exact⟨rfl,h, .same (Chg.refl _ _) h.wf⟩
 | some q=>
   obtain⟨b,ha,b0,d0⟩:=h.qs hq
   obtain⟨_,m2,m0,m1,m3⟩:=hqd q hq
   rw [ha]
   obtain⟨i,a0⟩:=Int.eq_ofNat_of_zero_le (show 0≤q.me by omega)
   refine (Zi4 b q.n q.mem q.me q.H q.P q.last i w d0 a0 (by omega) m3 (hl q hq)).mono ?_
   rintro r w' ⟨rfl,c0,hc⟩
   obtain⟨h2,t2⟩:=h.setQ ha b0 q.next hc (by unfold Qd.next;rw [show q.me.toNat=i by omega];exact c0)
   exact⟨rfl,h2,t2⟩
theorem Zj9 (h:NdO own K w a s out) (hqd:Zd3 s) (hn:3≤s.n∧s.n≤7) :
  Calls Tryz.prog 225 #[Z3f a.qb] w fun r w'=>r=.returned (.int .i64 (comQ s.q))∧Below w.heap.size w w':=by
 cases hq:s.q with
 | none=>
   rw [h.qn hq]
   refine (Zcb w).mono ?_
   rintro r w' ⟨rfl,rfl⟩
   exact⟨rfl,Below.refl _ _⟩
 | some q=>
   obtain⟨b,ha,hob,a0⟩:=h.qs hq
   obtain⟨m2,_⟩:=hqd q hq
   rw [ha]
   show Calls _ _ _ _ fun r w'=>r=.returned (.int .i64 (medQ q.H q.n))∧Below w.heap.size w w'
   rw [med_eq]
   exact Zca b q.n q.mem q.me q.H q.P q.last w a0 (by omega) (by omega)
theorem ndQProbe (h:NdO own K w a s out) (hqd:Zd3 s) (hn:3≤s.n∧s.n≤7) :
  Calls Tryz.prog 226 #[Z3f a.qb] w fun r w'=>r=.returned (.int .i64 (prbQ s.q))∧Below w.heap.size w w':=by
 cases hq:s.q with
 | none=>
   rw [h.qn hq]
   refine (Zfm w).mono ?_
   rintro r w' ⟨rfl,rfl⟩
   exact⟨rfl,Below.refl _ _⟩
 | some q=>
   obtain⟨b,ha,hob,a0⟩:=h.qs hq
   obtain⟨m2,_⟩:=hqd q hq
   rw [ha]
   show Calls _ _ _ _ fun r w'=>r=.returned (.int .i64 (medQ q.P q.n))∧Below w.heap.size w w'
   rw [med_eq]
   exact Zfl b q.n q.mem q.me q.H q.P q.last w a0 (by omega) (by omega)
end
end
section
open Go.RowKit
theorem Z8m (b:Nat) (frm boot seq:Int) (l:List Ent) (F:Nat→Prop) (w:World) (h:pnO w F b frm boot seq l) (hl:l.length≤1000000) :
  Calls Tryz.prog 129 #[.pointer (some ⟨b,0,none⟩)] w fun r w'=>∃ v',r=.returned v'∧ownE w' w.heap.size 134 v' l∧Below w.heap.size w w':=by
 obtain⟨hF,v,hb,ho,hv⟩:=h
 have c3:w.cell? ⟨b,3,none⟩=some v:=Z00 hb 3
 have hlt:=Z04 hb
 have hC:=hd_ (Z2m v l w ho.rd hl)
 replace hb:=hd_ hb;clear ho hv
 go_enter Tryz.func129,Tryz.ntmps129
 go_wp2_with fail
 refine hC.out.mono ?_
 rintro r w1 ⟨v',rfl,b0,a0⟩;replace b0:=hd_ b0;replace a0:=hd_ a0;clear hC c3;go_wp2
 go_ret
 exact⟨_,rfl,b0.out,a0.out⟩
section
variable {own:Nat→Nat} {K:Nat} {w:World} {a:NdAt} {s:Nd} {out:List MsS}
open Classical in
theorem Zja (h:NdO own K w a s out) (clock:Int) (hq0:0≤s.pf.num) (hq1:s.pf.num<4611686018427387904) (hl:s.pf.asked.length≤1000000) :
  Calls Tryz.prog 133 #[Z09 a.f, .int .i64 clock] w fun r w'=>r=.returned (.int .i64 (s.pf.num+1))∧∃ own',NdO own' K w' a { s with pf:=s.pf.ask clock } out∧Turn (fun o=>o=K+7) own own' w w':=by
 have hk:=h.r.k16
 refine (Zj4 a.f s.pf _ clock w h.r.pf hq0 hq1 hl).mono ?_
 rintro r w' ⟨rfl,⟨F',hq,a0⟩,hc⟩
 have t:=Turn.cls (J:=fun o=>o=K+7) (own:=own) (fun c=>if F' c then K+7 else 0) hc
 refine⟨rfl,_,⟨t.pub h.blk (by rw [h.r.ob];omega),h.ears,h.r.putF (t.mono (J':=fun o=>o=K∨o=K+7) fun o e=>.inr e) (hq.mono fun k hk'=>?_)⟩,t⟩
 show clsO _ _ _ _ k=K+7
 rcases a0 k hk' with e | ⟨e1,e2⟩
 ·have e:own k=K+7:=e
  have:k<w.heap.size:=Nat.lt_of_not_le fun hge=>by rw [h.wf k hge] at e;omega
  unfold clsO;rw [if_pos this];exact e
 ·unfold clsO;rw [if_neg (by omega),if_pos e2];exact if_pos hk'
theorem Zjb (h:NdO own K w a s out) (num com:Int) :
  Calls Tryz.prog 168 #[Z09 a.f, .int .i64 num, .int .i64 com] w fun r w'=>(∃ bb,r=.returned (.bool bb))∧NdO own K w' a { s with pf:=s.pf.get num com } out∧Turn (fun o=>o=K+7) own own w w':=by
 have hk:=h.r.k16
 refine (Zj3 a.f s.pf _ num com w h.r.pf).mono ?_
 rintro r w' ⟨⟨bb,rfl⟩,hq,hc⟩
 have t:Turn (fun o=>o=K+7) own own w w':=.same hc h.wf
 exact⟨⟨bb,rfl⟩,⟨t.pub h.blk (by rw [h.r.ob];omega),h.ears,h.r.putF (t.mono (J':=fun o=>o=K∨o=K+7) fun o e=>.inr e) hq⟩,t⟩
theorem xAsk_any (c:Nat) (h:NdO own K w a s out) (hok:Ok c s) (hc:c<1000000000) (hp:s.pend.length≤1000) (hl:out.length≤1000000) :
  Calls Tryz.prog 78 #[Z09 a.b] w fun r w'=>r=.returned (.tuple #[])∧Stp own K w a w' s.ask.1 (out.map MsS.m++s.ask.2):=by
 have h16:=h.r.k16
 have c1:w.cell? ⟨a.b,1,none⟩=some (.int .i64 s.n):=h.c 1
 have w0:w.cell? ⟨a.b,11,none⟩=some (.int .i64 s.last):=h.c 11
 have la:=h.lt
 have hl0:=hok.l0
 have hl1:=hok.l1
 have hd1:=hok.d1
 have h1:=hok.q0
 have hq1:=hok.q1
 have hqa:=hok.qa
 have f0:=hok.b2
 have HD:Hid (∀ y,Calls Tryz.prog 89 #[.int .i64 s.last, .int .i64 s.n] (Z1c w y) fun r w'=>r=.returned (.int .i64 (Z1y s.last s.n))∧∃ z,w'=Z1c w z):=hd_ fun y=>
  Z0o (Z0p s.last s.n _ (by omega) (by omega))
 obtain⟨d,hd⟩:∃ d,d=Z1y s.last s.n:=⟨_,rfl⟩
 rw [← hd] at HD
 obtain⟨R,hR⟩:∃ R,R=s.ask:=⟨_,rfl⟩
 rw [← hR]
 replace hR:=hd_ hR;replace hd:=hd_ hd;replace h:=hd_ h
 go_enter Tryz.func78,Tryz.ntmps78
 go_upto_region 0 with (fail)
 have k1:=Z07 c1
 have i1:=Z07 w0
 refine Z08 (by kernel_rfl) (by kernel_rfl) ?_
 repeat (go_big_quiet_step (first | (go_at_call 89;exact HD.out _)))
 refine wpQuiet_nil ?_
 intro w1 z0
 have o0:=Z0e z0
 have g0:=h.out.grow o0
 have t1:=hd_ (Turn.grow (J:=JK K) (own:=own) o0 h.out.wf)
 replace g0:=hd_ g0;clear z0 k1 i1 c1 w0 la HD o0;go_upto_region 1 with (fail)
 refine Z05 (fun c=>own c=K+7) (.q 0 (.q 1 (.q 2 (.q 3 (.q 4 (.q 5 (.q 6 (.q 7 (.q 8 (.q 9 (.q 10 (.q 11 (.q 12 (.q 13 (.l 14 (.l 15 (.cut (.l 16 .fin)))))))))))))))))) (by kernel_rfl) (by kernel_rfl) ?_
 intro w2 f1 f0
 have b0:=g0.out.grow f0
 have r0:¬ own a.b=K+7:=by have:=b0.r.ob;omega
 have u4:=Z01 (F:=fun c=>own c=K+7) (b:=w2) r0 (show w2.cell? ⟨a.b,4,none⟩=some (.int .i64 s.clock) from b0.c 4)
 have j1:=Z01 (F:=fun c=>own c=K+7) (b:=w2) r0 (show w2.cell? ⟨a.b,11,none⟩=some (.int .i64 s.last) from b0.c 11)
 have m1:=Z01 (F:=fun c=>own c=K+7) (b:=w2) r0 (show w2.cell? ⟨a.b,16,none⟩=some (Z09 a.f) from b0.c 16)
 have t2:=hd_ (t1.out.trans (Turn.grow (J:=JK K) f0 g0.out.wf))
 replace b0:=hd_ b0;replace f0:=hd_ f0;clear f1;iterate 14 (refine Z0n rfl ?_;go_big_quiet_step (fail);refine wpQuiet_nil ?_)
 refine Z0j rfl (by kernel_rfl) ?_;intro K1 hK;go_simp
 refine (Zja b0.out s.clock h1 (by omega) (by omega)).mono ?_
 rintro r w3 ⟨rfl,own3,y0,t3⟩
 have t3':=t3.mono (J':=JK K) fun o e=>by unfold JK;omega
 refine hK _ _ t3.chg ?_
 clear hK K1;refine Z0j rfl (by kernel_rfl) ?_;intro K1 hK;go_simp
 refine hK _ _ t3.chg ?_
 clear hK K1;refine Z0h Z1j ?_;refine Z0j rfl (by kernel_rfl) ?_;intro K1 hK;go_simp
 obtain⟨M,hM⟩:∃ M:Ms,M=⟨8,0,d,0,s.last,0,0,0,[],0,s.pf.num+1,0,false⟩:=⟨_,rfl⟩
 have hS:=Z6n y0 M none 0 (by rw [hM];exact Z4e _ _) (by omega)
 rw [hM] at hS
 refine hS.mono ?_
 rintro r w4 ⟨rfl,own4,a4,o4,a0,s0,e4,t4⟩
 refine hK _ _ (Z0l t4) ?_
 clear hK K1 hS;refine Z0c ?_
 have t5:=hd_ ((t2.out.trans t3').trans t4)
 obtain⟨s3,e0⟩:∃ s3:Nd,s3={ s with pf:=s.pf.ask s.clock }:=⟨_,rfl⟩
 rw [← e0] at a0
 have e1:s3.pend=s.pend:=by rw [e0]
 have n0:=hd_ e4.b
 have b1:w4.cell? ⟨a.b,13,none⟩=some (Z09 a4.p):=a0.cb n0.out 13
 have a1:=a0.lt
 rw [show a4.b=a.b from n0.out] at a1
 have hL:=hd_ (Z8m a4.p s3.id s3.boot s3.pseq s3.pend _ w4 a0.r.pn (by rw [e1];omega))
 rw [e1] at hL
 replace e1:=hd_ e1;replace a0:=hd_ a0;replace e0:=hd_ e0;replace hM:=hd_ hM;clear u4 j1 m1 y0 t3 t3' t4;go_wp2_with fail
 refine hL.out.mono ?_
 rintro r w5 ⟨v5,rfl,t0,p0⟩
 have i0:=a0.out.grow p0
 have t6:=Turn.grow (J:=JK K) p0 a0.out.wf
 have v0:pubE own4 w5 v5 s.pend:=pubE.new t0 a0.out.wf
 have t7:=hd_ (t5.out.trans t6)
 obtain⟨ad,cp,rfl⟩:=t0.rd.len
 have j0:R=(s3,{ s.ms 8 d with view:=s.last,num:=s.pf.num+1 } :: if s.pend.isEmpty then [] else [{ s.ms 7 d with ents:=s.pend }]):=by rw [hR.out,e0.out,hd.out];rfl
 replace j0:=hd_ j0;replace v0:=hd_ v0;replace i0:=hd_ i0;clear hL b1 a1 t0 p0 t6
 obtain⟨n,hn⟩:∃ n,n=s.pend.length:=⟨_,rfl⟩
 rw [← hn]
 rcases Nat.eq_zero_or_pos n with h0 | h0
 ·have d0:s.pend=[]:=List.eq_nil_of_length_eq_zero (by omega)
  replace hn:=hd_ hn;subst h0;replace d0:=hd_ d0;go_wp2
  go_end0
  rw [j0.out]
  refine⟨rfl,own4,a4,o4,i0.out,?_,e4,t7.out⟩
  rw [s0,d0.out]
  rfl
 ·have c0:s.pend.isEmpty=false:=by cases hpd:s.pend with | nil=>rw [hpd] at hn;simp at hn;omega | cons x l=>rfl
  replace c0:=hd_ c0
  have lo4:o4.length≤1000001:=by have:=congrArg List.length s0;simp at this;omega
  obtain⟨M2,x0⟩:∃ M2:Ms,M2=⟨7,0,d,0,0,0,0,0,s.pend,0,0,0,false⟩:=⟨_,rfl⟩
  have hS:=Z6n i0.out M2 ad cp (by rw [x0];exact v0.out) (by omega)
  rw [x0] at hS
  rw [show a4.b=a.b from n0.out] at hS
  have k0:Calls Tryz.prog 116 #[Z09 a.b,Z0w ⟨7,0,d,0,0,0,0,0,s.pend,0,0,0,false⟩ (.slice ad n cp)] w5 fun r w'=>r=.returned (.tuple #[])∧∃ own2 a2 o2,NdO own2 K w' a2 s3 o2∧o2.map MsS.m=o4.map MsS.m++[{ s.ms 7 d with ents:=s.pend }]∧At0 a4 a2∧Turn (JK K) own4 own2 w5 w':=by
   rw [hn]
   have e9:s3.id=s.id∧s3.boot=s.boot:=by rw [e0.out];exact⟨rfl,rfl⟩
   rw [e9.1,e9.2] at hS
   exact hS
  replace k0:=hd_ k0;replace hn:=hd_ hn;clear hS;go_wp2_with fail
  refine k0.out.mono ?_
  rintro r w6 ⟨rfl,own6,a6,o6,m0,g1,e6,t8⟩
  have t9:=hd_ (t7.out.trans t8)
  replace m0:=hd_ m0;clear k0 t8;go_wp2
  go_end0
  rw [j0.out]
  refine⟨rfl,own6,a6,o6,m0.out,?_,e4.trans e6,t9.out⟩
  rw [g1,s0,c0.out,List.append_assoc]
  rfl
end
end
section
open Go.RowKit
theorem Zjc {own:Nat→Nat} {w w':World} (wf:∀ c,w.heap.size≤c→own c=0) {j:Nat} (hj:j≠0):∀ k,Gr (Is own j) w w' k→Is (Z5q own w.heap.size w'.heap.size j) j k:=fun k h=>by
 rcases h with h | h
 ·have hk:k<w.heap.size:=Nat.lt_of_not_le fun e=>hj ((wf k e).symm.trans h).symm
  exact (Z3k hk).trans h
 ·exact Z20 (by omega) h.2
theorem Zay (l:List Ent) (c:Int):Z40 l c=if l.isEmpty then c else max c (l.getLast?.getD ent0).stamp:=by
 unfold Z40
 cases h:l.getLast? with
 | none=>rw [List.getLast?_eq_none_iff.1 h];rfl
 | some x=>
   have:l.isEmpty=false:=by cases l with | nil=>cases h | cons a l=>rfl
   rw [this];rfl
section
variable {own:Nat→Nat} {K:Nat} {w:World} {a:NdAt} {s:Nd} {out:List MsS}
theorem ndLAdd (h:NdO own K w a s out) (e:Ent) (hl:s.L.length≤60) :
  Calls Tryz.prog 152 #[Z09 a.l,e.val] w fun r w'=>r=.returned (.bool (Z3a s.L e))∧∃ own',NdO own' K w' a { s with L:=Z88 s.L e } out∧Turn (fun o=>o=K+3) own own' w w':=by
 refine (Z5o a.l s.L e (Is own (K+3)) w h.r.lg hl).mono ?_
 rintro r w' ⟨rfl,hg,hc⟩
 have hk:=h.r.k16
 have t0:=Turn.ext hc
 exact⟨rfl,_,⟨t0.pub h.blk (by rw [h.r.ob];omega),h.ears,h.r.putL (t0.mono fun o e=>.inr e) (hg.mono (Zjc h.wf (by omega)))⟩,t0⟩
theorem Zej (h:NdO own K w a s out) (hqd:Zd3 s) (hl:s.L.length≤60) (e:Ent) :
  Calls Tryz.prog 130 #[Z09 a.b,e.val] w fun r w'=>r=.returned (.tuple #[])∧∃ own',NdO own' K w' a (s.add e) out∧Turn (JK K) own own' w w':=by
 have h16:=h.r.k16
 obtain⟨ef,eb,es,eo,el,et,ed⟩:=e
 obtain⟨W0,n1⟩:∃ W,W=w.alloc (.cells #[.int .i64 ef, .int .i64 eb, .int .i64 es, .int .i64 eo, .int .i64 el, .int .i64 et, .string ed] 134):=⟨_,rfl⟩
 have m1:Below w.heap.size w W0:=n1 ▸ (Below.refl _ _).alloc (Nat.le_refl _) _
 obtain⟨xb,l1⟩:∃ xb,xb=w.heap.size:=⟨_,rfl⟩
 have k1:W0.heap[xb]?=some (.cells #[.int .i64 ef, .int .i64 eb, .int .i64 es, .int .i64 eo, .int .i64 el, .int .i64 et, .string ed] 134 (0,0)):=n1 ▸ l1 ▸ Z0a _ _
 have v1:=h.grow m1
 have hxo:own xb=0:=h.wf xb (by omega)
 have t0:=Turn.grow (J:=JK K) (own:=own) m1 h.wf
 obtain⟨ck,e2⟩:∃ ck,ck=s.clock:=⟨_,rfl⟩
 obtain⟨st,g2⟩:∃ st,st=Z40 s.L ck:=⟨_,rfl⟩
 have q0:=g2
 rw [Zay] at q0
 obtain⟨E',d1⟩:∃ E':Ent,E'=⟨ef,eb,es,eo,el,st,ed⟩:=⟨_,rfl⟩
 obtain⟨R,hR⟩:∃ R,R=s.add ⟨ef,eb,es,eo,el,et,ed⟩:=⟨_,rfl⟩
 have b2:R=if Z3a s.L E' then { s with L:=s.L++[E'],q:=s.q.map fun q=>q.ack s.id (s.L.length+1) 0 } else s:=by rw [hR,d1,g2,e2];rfl
 rw [← hR]
 -- the stamp: its clock
 obtain⟨W1,o1⟩:∃ W,W=W0.setCell ⟨xb,5,none⟩ (.int .i64 ck):=⟨_,rfl⟩
 have m2:W1.heap[xb]?=some (.cells #[.int .i64 ef, .int .i64 eb, .int .i64 es, .int .i64 eo, .int .i64 el, .int .i64 ck, .string ed] 134 (0,0)):=o1 ▸ Z0d k1
 have c1:Below w.heap.size w W1:=o1 ▸ m1.setCell (Nat.le_of_eq l1.symm) _
 have w1:=h.grow c1
 have t1:=hd_ (Turn.grow (J:=JK K) (own:=own) c1 h.wf)
 have c4:W0.cell? ⟨a.b,4,none⟩=some (.int .i64 ck):=by rw [e2];exact v1.c 4
 have x5:W0.cell? ⟨xb,5,none⟩=some (.int .i64 et):=Z00 k1 5
 have z5:=Z03 k1 5
 have y2:=Z04 k1
 have v2:=v1.lt
 replace m2:=hd_ m2;replace k1:=hd_ k1;replace w1:=hd_ w1;replace v1:=hd_ v1;replace h:=hd_ h;replace m1:=hd_ m1;replace c1:=hd_ c1;replace hR:=hd_ hR;replace b2:=hd_ b2;replace d1:=hd_ d1;replace g2:=hd_ g2;replace q0:=hd_ q0;replace e2:=hd_ e2;clear t0
 go_enter Tryz.func130,Tryz.ntmps130
 go_upto_region 1 with (fail)
 rw [← n1,← l1]
 replace n1:=hd_ n1;replace l1:=hd_ l1;go_upto_region 2 with (fail)
 rw [← o1]
 replace o1:=hd_ o1;clear c4 x5 z5 y2 v2
 obtain⟨La,f1⟩:∃ La,La=s.L.getLast?.getD ent0:=⟨_,rfl⟩
 replace f1:=hd_ f1
 go_cut [4,5] (fun z4 z5 wx=>∃ nb,z4=.pointer (some ⟨nb,0,none⟩)∧z5=.bool (!s.L.isEmpty)∧W1.heap.size≤nb∧Below W1.heap.size W1 wx∧wx.heap[nb]?=some (.cells #[.int .i64 La.frm, .int .i64 La.boot, .int .i64 La.seq, .int .i64 La.ord, .int .i64 La.lev, .int .i64 La.stamp, .string La.data] 134 (0,0)))
 case first=>
  refine Z05 (fun _=>False) (.q 0 (.q 1 (.q 2 (.q 3 (.q 4 (.q 5 (.q 6 (.q 7 (.two 8 (.two 9 (.q 10 (.q 11 (.q 12 (.l 13 (.l 14 (.q 15 .fin)))))) 13 (.l 9 (.q 10 (.q 11 (.q 12 (.l 14 (.q 15 .fin))))))) 13 (.l 8 (.l 9 (.q 10 (.q 11 (.q 12 (.l 14 (.q 15 .fin)))))))))))))))) (by kernel_rfl) (by kernel_rfl) ?_
  intro w2 r2 n0
  have y1:=w1.out.grow n0
  have u9:=Z01 (F:=fun _=>False) (b:=w2) (fun h=>h) (show w2.cell? ⟨a.b,9,none⟩=some (Z09 a.l) from y1.c 9)
  have i1:=hd_ y1.r.lg.rd
  replace y1:=hd_ y1;clear r2;iterate 8 (refine Z0n rfl ?_;go_big_quiet_step (fail);refine wpQuiet_nil ?_)
  refine Zhh ?_ ?_
  ·refine Z0j rfl (by kernel_rfl) ?_
   intro K1 hK;go_simp
   refine (Z0m a.l s.L _ i1.out).mono ?_
   rintro r wx ⟨rfl,rfl⟩
   refine hK _ _ (Chg.refl _ _) ?_
   clear hK K1
   refine Zhh ?_ ?_
   ·refine Z0j rfl (by kernel_rfl) ?_
    intro K1 hK;go_simp
    refine (Z62 a.l s.L _ i1.out (by omega)).mono ?_
    rintro r w3 ⟨rfl,e0⟩
    refine hK _ _ (.of_below e0) ?_
    clear hK K1
    rw [← f1.out]
    iterate 3 (refine Z0n rfl ?_;go_big_quiet_step (fail);refine wpQuiet_nil ?_)
    refine Z0j rfl (by kernel_rfl) ?_;intro K1 hK;go_simp
    obtain⟨W4,f0⟩:∃ W,W=w3.alloc (.cells #[.int .i64 0, .int .i64 0, .int .i64 0, .int .i64 0, .int .i64 0, .int .i64 0, .string ⟨#[]⟩] 134):=⟨_,rfl⟩
    have c0:Below w3.heap.size w3 W4:=f0 ▸ (Below.refl _ _).alloc (Nat.le_refl _) _
    obtain⟨nb,i0⟩:∃ nb,nb=w3.heap.size:=⟨_,rfl⟩
    have b0:W4.heap[nb]?=some (.cells #[.int .i64 0, .int .i64 0, .int .i64 0, .int .i64 0, .int .i64 0, .int .i64 0, .string ⟨#[]⟩] 134 (0,0)):=f0 ▸ i0 ▸ Z0a _ _
    rw [← f0,← i0]
    replace f0:=hd_ f0
    have j0:=e0.trans (c0.mono e0.size)
    have d0:w2.heap.size≤nb:=by have:=e0.size;omega
    replace i0:=hd_ i0
    refine hK _ _ (.of_below j0) ?_
    clear hK K1
    have x0:=Z00 b0 0
    have x1:=Z00 b0 1
    have x2:=Z00 b0 2
    have x3:=Z00 b0 3
    have x4:=Z00 b0 4
    have x5:=Z00 b0 5
    have x6:=Z00 b0 6
    have z0:=Z03 b0 0
    have z1:=Z03 b0 1
    have z2:=Z03 b0 2
    have z3:=Z03 b0 3
    have z4:=Z03 b0 4
    have z5:=Z03 b0 5
    have z6:=Z03 b0 6
    simp only [List.getElem?_toArray,List.getElem?_cons_zero,List.getElem?_cons_succ] at x0 x1 x2 x3 x4 x5 x6
    have r1:=Z04 b0
    obtain⟨W9,g0⟩:∃ W9,W9=(((((((W4.setCell ⟨nb,0,none⟩ (.int .i64 La.frm)).setCell ⟨nb,1,none⟩ (.int .i64 La.boot)).setCell ⟨nb,2,none⟩ (.int .i64 La.seq)).setCell ⟨nb,3,none⟩ (.int .i64 La.ord)).setCell ⟨nb,4,none⟩ (.int .i64 La.lev)).setCell ⟨nb,5,none⟩ (.int .i64 La.stamp)).setCell ⟨nb,6,none⟩ (.string La.data)):=⟨_,rfl⟩
    have l0:W9.heap[nb]?=some (.cells #[.int .i64 La.frm, .int .i64 La.boot, .int .i64 La.seq, .int .i64 La.ord, .int .i64 La.lev, .int .i64 La.stamp, .string La.data] 134 (0,0)):=g0 ▸ Z0d (Z0d (Z0d (Z0d (Z0d (Z0d (Z0d b0))))))
    have h0:Below w2.heap.size w2 W9:=g0 ▸ ((((((j0.setCell d0 _).setCell d0 _).setCell d0 _).setCell d0 _).setCell d0 _).setCell d0 _).setCell d0 _
    refine Z0j rfl (by kernel_rfl) ?_;intro K1 hK;go_simp
    rw [← g0]
    refine hK _ _ (.of_below h0) ?_
    clear hK K1;replace g0:=hd_ g0;clear x0 x1 x2 x3 x4 x5 x6 z0 z1 z2 z3 z4 z5 z6 r1;refine Z0n rfl ?_;go_big_quiet_step (fail);refine wpQuiet_nil ?_;refine Z0c ?_
    have k0:=hd_ (n0.trans (h0.mono n0.size))
    have b1:=Nat.le_trans n0.size d0
    replace l0:=hd_ l0;replace h0:=hd_ h0;go_wp2_with fail
    go_meet
    exact⟨nb,rfl,rfl,b1,k0.out,l0.out⟩
   ·refine Z0j rfl (by kernel_rfl) ?_
    intro K1 hK;go_simp
    obtain⟨W4,f0⟩:∃ W,W=w2.alloc (.cells #[.int .i64 0, .int .i64 0, .int .i64 0, .int .i64 0, .int .i64 0, .int .i64 0, .string ⟨#[]⟩] 134):=⟨_,rfl⟩
    have c0:Below w2.heap.size w2 W4:=f0 ▸ (Below.refl _ _).alloc (Nat.le_refl _) _
    obtain⟨nb,i0⟩:∃ nb,nb=w2.heap.size:=⟨_,rfl⟩
    have b0:W4.heap[nb]?=some (.cells #[.int .i64 0, .int .i64 0, .int .i64 0, .int .i64 0, .int .i64 0, .int .i64 0, .string ⟨#[]⟩] 134 (0,0)):=f0 ▸ i0 ▸ Z0a _ _
    rw [← f0,← i0]
    replace f0:=hd_ f0
    have d0:w2.heap.size≤nb:=by omega
    replace i0:=hd_ i0
    refine hK _ _ (.of_below c0) ?_
    clear hK K1
    have f2:=hd_ (i1.out.grow c0)
    refine Z0j rfl (by kernel_rfl) ?_;intro K1 hK;go_simp
    refine (Z62 a.l s.L _ f2.out (by omega)).mono ?_
    rintro r w3 ⟨rfl,e0⟩
    refine hK _ _ (.of_below (c0.trans (e0.mono c0.size))) ?_
    clear hK K1
    rw [← f1.out]
    iterate 3 (refine Z0n rfl ?_;go_big_quiet_step (fail);refine wpQuiet_nil ?_)
    have j0:=c0.trans (e0.mono c0.size)
    have a0:=Z02 b0 e0
    have x0:=Z00 a0 0
    have x1:=Z00 a0 1
    have x2:=Z00 a0 2
    have x3:=Z00 a0 3
    have x4:=Z00 a0 4
    have x5:=Z00 a0 5
    have x6:=Z00 a0 6
    have z0:=Z03 a0 0
    have z1:=Z03 a0 1
    have z2:=Z03 a0 2
    have z3:=Z03 a0 3
    have z4:=Z03 a0 4
    have z5:=Z03 a0 5
    have z6:=Z03 a0 6
    simp only [List.getElem?_toArray,List.getElem?_cons_zero,List.getElem?_cons_succ] at x0 x1 x2 x3 x4 x5 x6
    have r1:=Z04 a0
    obtain⟨W9,g0⟩:∃ W9,W9=(((((((w3.setCell ⟨nb,0,none⟩ (.int .i64 La.frm)).setCell ⟨nb,1,none⟩ (.int .i64 La.boot)).setCell ⟨nb,2,none⟩ (.int .i64 La.seq)).setCell ⟨nb,3,none⟩ (.int .i64 La.ord)).setCell ⟨nb,4,none⟩ (.int .i64 La.lev)).setCell ⟨nb,5,none⟩ (.int .i64 La.stamp)).setCell ⟨nb,6,none⟩ (.string La.data)):=⟨_,rfl⟩
    have l0:W9.heap[nb]?=some (.cells #[.int .i64 La.frm, .int .i64 La.boot, .int .i64 La.seq, .int .i64 La.ord, .int .i64 La.lev, .int .i64 La.stamp, .string La.data] 134 (0,0)):=g0 ▸ Z0d (Z0d (Z0d (Z0d (Z0d (Z0d (Z0d a0))))))
    have h0:Below w2.heap.size w2 W9:=g0 ▸ ((((((j0.setCell d0 _).setCell d0 _).setCell d0 _).setCell d0 _).setCell d0 _).setCell d0 _).setCell d0 _
    refine Z0j rfl (by kernel_rfl) ?_;intro K1 hK;go_simp
    rw [← g0]
    refine hK _ _ (.of_below h0) ?_
    clear hK K1;replace g0:=hd_ g0;clear x0 x1 x2 x3 x4 x5 x6 z0 z1 z2 z3 z4 z5 z6 r1;refine Z0n rfl ?_;go_big_quiet_step (fail);refine wpQuiet_nil ?_;refine Z0c ?_
    have k0:=hd_ (n0.trans (h0.mono n0.size))
    have b1:=Nat.le_trans n0.size d0
    replace l0:=hd_ l0;replace h0:=hd_ h0;go_wp2_with fail
    go_meet
    exact⟨nb,rfl,rfl,b1,k0.out,l0.out⟩
  ·refine Z0j rfl (by kernel_rfl) ?_
   intro K1 hK;go_simp
   obtain⟨W4,f0⟩:∃ W,W=w2.alloc (.cells #[.int .i64 0, .int .i64 0, .int .i64 0, .int .i64 0, .int .i64 0, .int .i64 0, .string ⟨#[]⟩] 134):=⟨_,rfl⟩
   have c0:Below w2.heap.size w2 W4:=f0 ▸ (Below.refl _ _).alloc (Nat.le_refl _) _
   obtain⟨nb,i0⟩:∃ nb,nb=w2.heap.size:=⟨_,rfl⟩
   have b0:W4.heap[nb]?=some (.cells #[.int .i64 0, .int .i64 0, .int .i64 0, .int .i64 0, .int .i64 0, .int .i64 0, .string ⟨#[]⟩] 134 (0,0)):=f0 ▸ i0 ▸ Z0a _ _
   rw [← f0,← i0]
   replace f0:=hd_ f0
   have d0:w2.heap.size≤nb:=by omega
   replace i0:=hd_ i0
   refine hK _ _ (.of_below c0) ?_
   clear hK K1
   have f2:=hd_ (i1.out.grow c0)
   refine Z0j rfl (by kernel_rfl) ?_;intro K1 hK;go_simp
   refine (Z0m a.l s.L _ f2.out).mono ?_
   rintro r wx ⟨rfl,rfl⟩
   refine hK _ _ (.of_below c0) ?_
   clear hK K1;refine Z0j rfl (by kernel_rfl) ?_;intro K1 hK;go_simp
   refine (Z62 a.l s.L _ f2.out (by omega)).mono ?_
   rintro r w3 ⟨rfl,e0⟩
   refine hK _ _ (.of_below (c0.trans (e0.mono c0.size))) ?_
   clear hK K1
   rw [← f1.out]
   iterate 3 (refine Z0n rfl ?_;go_big_quiet_step (fail);refine wpQuiet_nil ?_)
   have j0:=c0.trans (e0.mono c0.size)
   have a0:=Z02 b0 e0
   have x0:=Z00 a0 0
   have x1:=Z00 a0 1
   have x2:=Z00 a0 2
   have x3:=Z00 a0 3
   have x4:=Z00 a0 4
   have x5:=Z00 a0 5
   have x6:=Z00 a0 6
   have z0:=Z03 a0 0
   have z1:=Z03 a0 1
   have z2:=Z03 a0 2
   have z3:=Z03 a0 3
   have z4:=Z03 a0 4
   have z5:=Z03 a0 5
   have z6:=Z03 a0 6
   simp only [List.getElem?_toArray,List.getElem?_cons_zero,List.getElem?_cons_succ] at x0 x1 x2 x3 x4 x5 x6
   have r1:=Z04 a0
   obtain⟨W9,g0⟩:∃ W9,W9=(((((((w3.setCell ⟨nb,0,none⟩ (.int .i64 La.frm)).setCell ⟨nb,1,none⟩ (.int .i64 La.boot)).setCell ⟨nb,2,none⟩ (.int .i64 La.seq)).setCell ⟨nb,3,none⟩ (.int .i64 La.ord)).setCell ⟨nb,4,none⟩ (.int .i64 La.lev)).setCell ⟨nb,5,none⟩ (.int .i64 La.stamp)).setCell ⟨nb,6,none⟩ (.string La.data)):=⟨_,rfl⟩
   have l0:W9.heap[nb]?=some (.cells #[.int .i64 La.frm, .int .i64 La.boot, .int .i64 La.seq, .int .i64 La.ord, .int .i64 La.lev, .int .i64 La.stamp, .string La.data] 134 (0,0)):=g0 ▸ Z0d (Z0d (Z0d (Z0d (Z0d (Z0d (Z0d a0))))))
   have h0:Below w2.heap.size w2 W9:=g0 ▸ ((((((j0.setCell d0 _).setCell d0 _).setCell d0 _).setCell d0 _).setCell d0 _).setCell d0 _).setCell d0 _
   refine Z0j rfl (by kernel_rfl) ?_;intro K1 hK;go_simp
   rw [← g0]
   refine hK _ _ (.of_below h0) ?_
   clear hK K1;replace g0:=hd_ g0;clear x0 x1 x2 x3 x4 x5 x6 z0 z1 z2 z3 z4 z5 z6 r1;refine Z0n rfl ?_;go_big_quiet_step (fail);refine wpQuiet_nil ?_;refine Z0c ?_
   have k0:=hd_ (n0.trans (h0.mono n0.size))
   have b1:=Nat.le_trans n0.size d0
   replace l0:=hd_ l0;replace h0:=hd_ h0;go_wp2_with fail
   go_meet
   exact⟨nb,rfl,rfl,b1,k0.out,l0.out⟩
 case rest=>
  obtain⟨nb,rfl,rfl,b1,d2,h1⟩:=hcut
  rename World=>w3
  have hN3:=hd_ (w1.out.grow d2)
  have o2:=hd_ (c1.out.trans (d2.mono c1.out.size))
  have a0:=Z02 m2.out d2
  clear d2 b1
  obtain⟨em,j2⟩:∃ em,s.L.isEmpty=em:=⟨_,rfl⟩
  have a1:=q0.out
  rw [j2] at a1 ⊢
  replace j2:=hd_ j2
  cases em
  case' true=>
   obtain⟨W5,y0,n2,s1⟩:∃ W5,W5=w3∧W5.heap[xb]?=some (.cells #[.int .i64 ef, .int .i64 eb, .int .i64 es, .int .i64 eo, .int .i64 el, .int .i64 st, .string ed] 134 (0,0))∧Below w.heap.size w W5:=⟨w3,rfl,by rw [show st=ck from a1];exact a0,o2.out⟩
   replace a1:=hd_ a1;replace a0:=hd_ a0;replace h1:=hd_ h1;go_upto_region 5 with (fail)
   rw [← y0]
   replace y0:=hd_ y0
  case' false=>
   have l2:st=max ck La.stamp:=by rw [f1.out];exact a1
   have x5:w3.cell? ⟨xb,5,none⟩=some (.int .i64 ck):=Z00 a0 5
   have z5:=Z03 a0 5
   have lx:=Z04 a0
   have y5:w3.cell? ⟨nb,5,none⟩=some (.int .i64 La.stamp):=Z00 h1 5
   have ly:=Z04 h1
   obtain⟨W5,y0,n2,s1⟩:∃ W5,W5=w3.setCell ⟨xb,5,none⟩ (.int .i64 (max ck La.stamp))∧W5.heap[xb]?=some (.cells #[.int .i64 ef, .int .i64 eb, .int .i64 es, .int .i64 eo, .int .i64 el, .int .i64 st, .string ed] 134 (0,0))∧Below w.heap.size w W5:=⟨_,rfl,by rw [l2];exact Z0d a0,o2.out.setCell (Nat.le_of_eq l1.out.symm) _⟩
   replace a1:=hd_ a1;replace l2:=hd_ l2;replace a0:=hd_ a0;replace h1:=hd_ h1;go_upto_region 5 with (fail)
   rw [← y0]
   replace y0:=hd_ y0;clear x5 z5 lx y5 ly
  all_goals
   have i2:=h.out.grow s1
   have t5:=Turn.grow (J:=JK K) (own:=own) s1 h.out.wf
   refine Z05 (fun _=>False) (.q 0 (.q 1 (.q 2 (.q 3 (.q 4 (.cut (.l 5 .fin))))))) (by kernel_rfl) (by kernel_rfl) ?_
   intro w6 s2 q1
   have a2:=i2.grow q1
   have r0:=Z02 n2 q1
   have u9:=Z01 (F:=fun _=>False) (b:=w6) (fun h=>h) (show w6.cell? ⟨a.b,9,none⟩=some (Z09 a.l) from a2.c 9)
   have p0:=Z01 (F:=fun _=>False) (b:=w6) (fun h=>h) (show w6.cell? ⟨xb,0,none⟩=some (.int .i64 ef) from Z00 r0 0)
   have p1:=Z01 (F:=fun _=>False) (b:=w6) (fun h=>h) (show w6.cell? ⟨xb,1,none⟩=some (.int .i64 eb) from Z00 r0 1)
   have p2:=Z01 (F:=fun _=>False) (b:=w6) (fun h=>h) (show w6.cell? ⟨xb,2,none⟩=some (.int .i64 es) from Z00 r0 2)
   have p3:=Z01 (F:=fun _=>False) (b:=w6) (fun h=>h) (show w6.cell? ⟨xb,3,none⟩=some (.int .i64 eo) from Z00 r0 3)
   have p4:=Z01 (F:=fun _=>False) (b:=w6) (fun h=>h) (show w6.cell? ⟨xb,4,none⟩=some (.int .i64 el) from Z00 r0 4)
   have p5:=Z01 (F:=fun _=>False) (b:=w6) (fun h=>h) (show w6.cell? ⟨xb,5,none⟩=some (.int .i64 st) from Z00 r0 5)
   have p6:=Z01 (F:=fun _=>False) (b:=w6) (fun h=>h) (show w6.cell? ⟨xb,6,none⟩=some (.string ed) from Z00 r0 6)
   have t6:=hd_ (t5.trans (Turn.grow (J:=JK K) q1 i2.wf))
   replace a2:=hd_ a2;replace r0:=hd_ r0;clear s2 i2 t5 n2 s1;replace q1:=hd_ q1
   repeat (refine Z0n rfl ?_;go_big_quiet_step (fail);refine wpQuiet_nil ?_)
   refine Z0h Z1j ?_;refine Z0j rfl (by kernel_rfl) ?_;intro K1 hK;go_simp
   have h2:=ndLAdd a2.out ⟨ef,eb,es,eo,el,st,ed⟩ hl
   obtain⟨ok,o0⟩:∃ ok,Z3a s.L ⟨ef,eb,es,eo,el,st,ed⟩=ok:=⟨_,rfl⟩
   rw [o0] at h2
   refine h2.mono ?_
   rintro r w7 ⟨rfl,own7,m0,t7⟩
   refine hK _ _ (Z0l t7) ?_
   clear hK K1 h2 u9 p0 p1 p2 p3 p4 p5 p6;refine Z0c ?_
   have t7':=t7.mono (J':=JK K) fun o e=>by unfold JK;omega
   have t8:=hd_ (t6.out.trans t7')
   clear t7 t7'
   cases ok
   case false=>
    have e1:Z88 s.L ⟨ef,eb,es,eo,el,st,ed⟩=s.L:=by unfold Z88;rw [o0];rfl
    rw [e1] at m0
    have g1:R=s:=by rw [b2.out,d1.out,o0];rfl
    replace m0:=hd_ m0;replace g1:=hd_ g1;replace o0:=hd_ o0;clear e1;go_wp2
    go_end0
    rw [g1.out]
    exact⟨rfl,own7,m0.out,t8.out⟩
   have e1:Z88 s.L ⟨ef,eb,es,eo,el,st,ed⟩=s.L++[E']:=by unfold Z88;rw [o0,d1.out];rfl
   rw [e1] at m0
   have g1:R={ s with L:=s.L++[E'],q:=s.q.map fun q=>q.ack s.id (s.L.length+1) 0 }:=by rw [b2.out];rw [d1.out] at *;rw [o0];rfl
   obtain⟨s7,j1⟩:∃ s7:Nd,s7={ s with L:=s.L++[E'] }:=⟨_,rfl⟩
   rw [← j1] at m0
   have k2:Zd3 s7:=by rw [j1];exact hqd
   have q2:s7.L.length=s.L.length+1:=by rw [j1];show (s.L++[E']).length=_;rw [List.length_append];rfl
   have w0:R={ s7 with q:=s7.q.map fun q=>q.ack s7.id ((s7.L.length:Nat):Int) 0 }:=by rw [g1,q2,j1];push_cast;rfl
   replace w0:=hd_ w0;replace o0:=hd_ o0;replace j1:=hd_ j1;replace m0:=hd_ m0;clear g1 e1 q2;go_upto_region 6 with (fail)
   refine Z05 (fun _=>False) (.q 0 (.q 1 (.q 2 (.q 3 (.q 4 (.q 5 (.q 6 (.q 7 (.q 8 (.q 9 (.q 10 (.q 11 (.l 12 (.cut (.l 13 .fin))))))))))))))) (by kernel_rfl) (by kernel_rfl) ?_
   intro w8 t2 c2
   have v0:=m0.out.grow c2
   have u9:=Z01 (F:=fun _=>False) (b:=w8) (fun h=>h) (show w8.cell? ⟨a.b,9,none⟩=some (Z09 a.l) from v0.c 9)
   have u0:=Z01 (F:=fun _=>False) (b:=w8) (fun h=>h) (show w8.cell? ⟨a.b,0,none⟩=some (.int .i64 s7.id) from v0.c 0)
   have a3:=Z01 (F:=fun _=>False) (b:=w8) (fun h=>h) (show w8.cell? ⟨a.b,21,none⟩=some (Z3f a.qb) from v0.c 21)
   have t9:=hd_ (t8.out.trans (Turn.grow (J:=JK K) c2 m0.out.wf))
   have i1:=hd_ v0.r.lg.rd
   replace v0:=hd_ v0;clear t2;replace c2:=hd_ c2;iterate 12 (refine Z0n rfl ?_;go_big_quiet_step (fail);refine wpQuiet_nil ?_)
   refine Z0j rfl (by kernel_rfl) ?_;intro K1 hK;go_simp
   refine (Z0m a.l s7.L _ i1.out).mono ?_
   rintro r wx ⟨rfl,rfl⟩
   refine hK _ _ (Chg.refl _ _) ?_
   clear hK K1;refine Z0h Z1j ?_;refine Z0j rfl (by kernel_rfl) ?_;intro K1 hK;go_simp
   have hA:=Zj8 v0.out k2 s7.id (s7.L.length:Int) 0
   refine hA.mono ?_
   rintro r w10 ⟨rfl,s0,t10⟩
   have t10':=t10.mono (J':=JK K) fun o e=>by unfold JK;omega
   refine hK _ _ (Z0l t10) ?_
   clear hK K1 u9 u0 a3 hA;refine Z0c ?_
   have t11:=hd_ (t9.out.trans t10')
   replace s0:=hd_ s0;clear t10 t10';go_wp2
   go_end0
   rw [w0.out]
   exact⟨rfl,own7,s0.out,t11.out⟩
end
end
section
open Go.RowKit
structure Okg (c:Nat) (s:Nd):Prop extends Ok c s where
 b3:s.boot≤1000000
 pd:s.pend.length≤4
 pm:∀ e ∈ s.pend,Z2l e=true
 ps0:0≤s.pseq
 lm:∀ e ∈ s.L,Z2l e=true
 tdl:s.td.length≤60*c
 tbl:s.tb.length≤s.td.length
 asl:s.asked.length≤64+c
 asq:∀ q ∈ s.asked,1≤q.1∧q.1≤7∧0≤q.2.1∧q.2.1≤1099511627776
 qd:∀ q,s.q=some q→q.n=s.n∧q.me=s.id∧0≤q.mem∧q.mem<128∧0≤q.last∧q.last≤c∧∀ x ∈ q.H,0≤x∧x≤60
 er:∀ x ∈ s.ears,0≤x∧x≤s.clock
 st0:0≤s.start
theorem addE_may {l:List Ent} {e:Ent} (h:∀ x ∈ l,Z2l x=true):∀ x ∈ Z88 l e,Z2l x=true:=by
 unfold Z88
 split
 ·next hok=>
  intro x hx
  rcases List.mem_append.1 hx with h1 | h1
  ·exact h x h1
  ·rw [List.mem_singleton.1 h1]
   unfold Z3a at hok
   simp only [Bool.and_eq_true] at hok
   exact hok.1.1.1
 ·exact h
theorem Zek (es:List Ent):∀ x ∈ Z2y es,Z2l x=true:=by
 have a0:∀ (es l:List Ent),(∀ x ∈ l,Z2l x=true)→∀ x ∈ es.foldl Z88 l,Z2l x=true:=by
  intro es
  induction es with
  | nil=>exact fun l h=>h
  | cons e es ih=>exact fun l h=>ih _ (addE_may h)
 exact a0 es [] (fun x hx=>by cases hx)
theorem Zaz {l:List Ent} {K:Nat} {es:List Ent} (h:∀ x ∈ l,Z2l x=true):∀ i m,Z2g l K es i=some m→∀ x ∈ m,Z2l x=true
 | 0,m,e=>by
   injection e with e
   rw [← e];exact h
 | i+1,m,e=>by
   unfold Z2g at e
   cases hp:Z2g l K es i with
   | none=>rw [hp] at e;cases e
   | some m'=>
     rw [hp] at e
     have ih:=Zaz h i m' hp
     dsimp only at e
     split at e
     ·split at e
      ·injection e with e;rw [← e];exact ih
      ·cases e
     ·split at e
      ·next hok=>
       injection e with e
       rw [← e]
       intro x hx
       rcases List.mem_append.1 hx with h1 | h1
       ·exact ih x h1
       ·rw [List.mem_singleton.1 h1]
        unfold Z3a at hok
        simp only [Bool.and_eq_true] at hok
        exact hok.1.1.1
      ·cases e
theorem putE_may {l:List Ent} {k:Int} {es m:List Ent} (h:∀ x ∈ l,Z2l x=true) (e:Z6p l k es=some m):∀ x ∈ m,Z2l x=true:=by
 unfold Z6p at e
 split at e
 ·cases e
 ·exact Zaz h _ _ e
theorem Qd.ack_same (q:Qd) (id hv pr:Int):(q.ack id hv pr).n=q.n∧(q.ack id hv pr).me=q.me∧(q.ack id hv pr).mem=q.mem∧(q.ack id hv pr).last=q.last:=by
 unfold Qd.ack
 split<;>exact⟨rfl,rfl,rfl,rfl⟩
def Qin (s:Nd) (c:Nat):Option Qd→Prop:=fun o=>∀ q,o=some q→q.n=s.n∧q.me=s.id∧0≤q.mem∧q.mem<128∧0≤q.last∧q.last≤c∧∀ x ∈ q.H,0≤x∧x≤60
theorem Zjd {l:List Int} {i:Nat} {y:Int} {P:Int→Prop} (h:∀ x ∈ l,P x) (hy:P y):∀ x ∈ l.set i y,P x:=fun x hx=>by
 rcases List.mem_or_eq_of_mem_set hx with h1 | h1
 ·exact h x h1
 ·rw [h1];exact hy
theorem Z9j {l:List Int} {P:Int→Prop} (h:∀ x ∈ l,P x) (h0:P 0) (i:Nat):P (l.getD i 0):=by
 rw [List.getD_eq_getElem?_getD]
 cases e:l[i]? with
 | none=>exact h0
 | some x=>exact h x (List.mem_of_getElem? e)
theorem Qd.ack_H {q:Qd} (h:∀ x ∈ q.H,0≤x∧x≤60) (id hv pr:Int):∀ x ∈ (q.ack id hv pr).H,0≤x∧x≤60:=by
 unfold Qd.ack
 split
 ·next hok=>
  unfold Qd.okAck at hok
  simp only [Bool.and_eq_true,decide_eq_true_eq] at hok
  obtain⟨⟨_,h1⟩,h2⟩:=hok
  have h3:=Z9j (P:=fun x=>0≤x∧x≤60) h (by omega) id.toNat
  exact Zjd (P:=fun x=>0≤x∧x≤60) h (by omega)
 ·exact h
theorem Qin.ack {s:Nd} {c:Nat} {o:Option Qd} (h:Qin s c o) (id hv pr:Int):Qin s c (o.map fun q=>q.ack id hv pr):=by
 intro q e
 cases o with
 | none=>cases e
 | some q0=>
   injection e with e
   obtain⟨e1,e2,e3,e4⟩:=q0.ack_same id hv pr
   obtain⟨a1,a2,a3,a4,a5,a6,a7⟩:=h q0 rfl
   rw [← e,e1,e2,e3,e4]
   exact⟨a1,a2,a3,a4,a5,a6,Qd.ack_H a7 id hv pr⟩
theorem Okg.up {c d:Nat} {s:Nd} (h:Okg c s) (hd:c≤d):Okg d s:=
 { h.toOk.up hd with b3:=h.b3,pd:=h.pd,pm:=h.pm,ps0:=h.ps0,lm:=h.lm,tdl:=Nat.le_trans h.tdl (Nat.mul_le_mul_left _ hd),tbl:=h.tbl,asl:=by have:=h.asl;omega,asq:=h.asq,qd:=fun q e=>by obtain⟨a1,a2,a3,a4,a5,a6,a7⟩:=h.qd q e;exact⟨a1,a2,a3,a4,a5,by omega,a7⟩,er:=h.er,st0:=h.st0 }
theorem Okg.tell {c:Nat} {s:Nd} (h:Okg c s) (hc:c≤1000000):Tell s:=
 ⟨h.lg,h.lm,h.o0,by have:=h.tdl;omega,by have:=h.tdl;have:=h.tbl;omega,h.c0,by have:=h.c1;omega⟩
theorem Okg.qdok {c:Nat} {s:Nd} (h:Okg c s):∀ q,s.q=some q→q.n=s.n∧q.me=s.id∧0≤q.mem∧q.mem<128∧0≤q.last:=fun q e=>by
 obtain⟨a1,a2,a3,a4,a5,a6,a7⟩:=h.qd q e;exact⟨a1,a2,a3,a4,a5⟩
theorem Zel (com now:Int):∀ (l:List Ent) (i:Int) (a t m:Bool) (td:Td),∃ outs,Z78 com now l i a t m td=td++outs
 | [],i,a,t,m,td=>⟨[],(List.append_nil _).symm⟩
 | e :: l,i,a,t,m,td=>by
   rw [Z7j]
   obtain⟨o1,h1⟩:∃ o1,(if !Z1r td e&&Z6m a t m e i com now then td++[(i,e)] else td)=td++o1:=by
    split
    ·exact⟨_,rfl⟩
    ·exact⟨[],(List.append_nil _).symm⟩
   rw [h1]
   obtain⟨o2,h2⟩:=Zel com now l (i+1) (a&&Z1r (td++o1) e) (t&&(Z1r (td++o1) e||e.ord != 1)) (m&&(Z1r (td++o1) e||e.ord != 2)) (td++o1)
   exact⟨o1++o2,by rw [h2,List.append_assoc]⟩
theorem Zem (td:Td) (l:List Ent) (com now:Int):∃ outs,Zid td l com now=td++outs:=Zel _ _ _ _ _ _ _ _
theorem Okg.settle {c:Nat} {s:Nd} (h:Okg c s):Okg (c+1) s.settle:=by
 have h1:=h.up (Nat.le_succ c)
 obtain⟨outs,hg⟩:∃ outs,Zid s.td s.L s.com s.clock=s.td++outs:=Zem _ _ _ _
 have hl:(Zid s.td s.L s.com s.clock).length≤s.td.length+60:=by
  unfold Zid
  have:=Z9h (min (max s.com 0) ((s.L.take 60).length:Int)) s.clock (s.L.take 60) 1 true true true s.td
  rw [List.length_take] at this ⊢
  omega
 have ht:(Z3j s.tb outs).length≤s.tb.length+outs.length:=Zax s.tb outs
 have a0:s.settle={ s with pend:=s.pend.filter (fun e => !((s.L.take (min s.com s.L.length).toNat).any fun x=>Z35 x e)),td:=s.td++outs,tb:=Z3j s.tb outs }:=by
  unfold Nd.settle
  dsimp only
  rw [hg,List.drop_left]
 rw [a0]
 rw [hg,List.length_append] at hl
 exact { h1 with
  pd:=Nat.le_trans (List.length_filter_le _ _) h.pd
  pm:=fun e he=>h.pm e (List.mem_filter.1 he).1
  tdl:=by show (s.td++outs).length≤60*(c+1);rw [List.length_append];have:=h.tdl;omega
  tbl:=by show (Z3j s.tb outs).length≤(s.td++outs).length;rw [List.length_append];have:=h.tbl;omega }
theorem Okg.propose {c:Nat} {s:Nd} (h:Okg c s):Okg c s.propose.1:=by
 have h1:=h.toOk.propose
 unfold Nd.propose at h1 ⊢
 dsimp only at h1 ⊢
 split at h1
 ·next hp=>rw [if_pos hp];exact h
 ·next hp=>rw [if_neg hp];exact { h1 with b3:=h.b3,pd:=h.pd,pm:=h.pm,ps0:=h.ps0,lm:=h.lm,tdl:=h.tdl,tbl:=h.tbl,asl:=h.asl,asq:=h.asq,qd:=h.qd,er:=h.er,st0:=h.st0 }
theorem Okg.install {c:Nat} {s:Nd} (h:Okg c s) {u:Int} {l:List Vt} (hv:s.v=some (u,l)) (hu:u=s.dv):Okg c (s.install u l).1:=by
 have h1:=h.toOk.installs hv hu
 have hq:Qin s c ((Qd.fresh s.n (Z0v (mkV l):Nat) s.id).map fun q=>q.ack s.id ((Z2y (Z57 l).lg).length:Int) 0):=by
  refine Qin.ack (fun q e=>?_) _ _ _
  unfold Qd.fresh at e
  split at e
  ·injection e with e
   have:=Z31 (mkV l)
   rw [← e]
   exact⟨rfl,rfl,by show (0:Int)≤(Z0v (mkV l):Nat);omega,by show ((Z0v (mkV l):Nat):Int)<128;omega,Int.le_refl _,by show (0:Int)≤c;omega,fun x hx=>by
    have:x=0:=by simpa [List.mem_cons] using hx
    omega⟩
  ·cases e
 exact { h1 with b3:=h.b3,pd:=h.pd,pm:=h.pm,ps0:=h.ps0,lm:=Zek _,tdl:=h.tdl,tbl:=h.tbl,asl:=Nat.zero_le _,asq:=fun q hq=>(by cases hq),qd:=hq,er:=fun x hx=>(by rw [(List.mem_replicate.1 hx).2];exact⟨h.c0,Int.le_refl _⟩),st0:=by show (0:Int)≤((Z2y (Z57 l).lg).length:Int);omega }
theorem Okg.gather {c:Nat} {s:Nd} (h:Okg c s) {u:Int} {l:List Vt} (hv:s.v=some (u,l)) (hu:u=s.dv):Okg c (s.gather u l).1:=by
 unfold Nd.gather
 split
 ·exact h.install hv hu
 ·split
  ·exact h.propose
  ·exact h
theorem Okg.add {c:Nat} {s:Nd} (h:Okg c s) (e:Ent):Okg c (s.add e):=by
 unfold Nd.add
 dsimp only
 split
 ·next hok=>
  have hl:s.L.length<60:=by
   unfold Z3a at hok
   simp only [Bool.and_eq_true,decide_eq_true_eq] at hok
   exact hok.1.2
  have hm:Z2l { e with stamp:=Z40 s.L s.clock }=true:=by
   unfold Z3a at hok
   simp only [Bool.and_eq_true] at hok
   exact hok.1.1.1
  have hq:Qin s c (s.q.map fun q=>q.ack s.id (s.L.length+1) 0):=Qin.ack h.qd _ _ _
  exact { h with
   lg:=by show (s.L++[_]).length≤60;rw [List.length_append,List.length_singleton];omega
   o1:=by show s.com≤((s.L++[_]).length:Int);have:=h.o1;rw [List.length_append,List.length_singleton];omega
   lm:=fun x hx=>by
    rcases List.mem_append.1 hx with h1 | h1
    ·exact h.lm x h1
    ·rw [List.mem_singleton.1 h1];exact hm
   qd:=hq }
 ·exact h
theorem Okg.adds {c:Nat}:∀ (es:List Ent) {s:Nd},Okg c s→Okg c (es.foldl Nd.add s)
 | [],s,h=>h
 | e :: es,s,h=>Okg.adds es (h.add e)
theorem Zg8 {α:Type} (l:List α):(Z56 l).length≤64:=by unfold Z56;rw [List.length_drop];omega
theorem Okg.pfask {c:Nat} {s:Nd} (h:Okg c s):Okg (c+1) { s with pf:=s.pf.ask s.clock }:=
 { h.up (Nat.le_succ c) with
   q0:=by show 0≤s.pf.num+1;have:=h.q0;omega
   q1:=by show s.pf.num+1≤s.boot*1048576+((c+1:Nat):Int);have:=h.q1;omega
   qa:=Zg8 _ }
theorem Okg.clk {c:Nat} {s:Nd} (h:Okg c s):Okg (c+1) { s with clock:=s.clock+1 }:=
 have h1:=h.up (Nat.le_succ c)
 { h.toOk.clk with b3:=h1.b3,pd:=h1.pd,pm:=h1.pm,ps0:=h1.ps0,lm:=h1.lm,tdl:=h1.tdl,tbl:=h1.tbl,asl:=h1.asl,asq:=h1.asq,qd:=h1.qd,er:=fun x hx=>by have:=h.er x hx;show 0≤x∧x≤s.clock+1;omega,st0:=h1.st0 }
theorem Okg.decide_ {c:Nat} {s:Nd} (h:Okg c s) (hc:c<1000000000):Okg (c+1) s.decide_.1:=by
 have h1:=Okg.adds s.pend h
 unfold Nd.decide_
 dsimp only
 generalize s.pend.foldl Nd.add s=s1 at h1 ⊢
 split
 ·exact (h1.propose).up (Nat.le_succ c)
 ·have h2:=h1.pfask
  refine { h2 with
   asl:=by show (s1.asked++[_]).length≤64+(c+1);rw [List.length_append,List.length_singleton];have:=h1.asl;omega
   asq:=fun q hq=>by
    rcases List.mem_append.1 hq with h3 | h3
    ·exact h1.asq q h3
    ·rw [List.mem_singleton.1 h3]
     have:=h1.i1;have:=h1.in_;have:=h1.n7;have:=h1.q0;have:=h1.q1;have:=h1.b3
     show 1≤s1.id∧s1.id≤7∧0≤s1.pf.num+1∧s1.pf.num+1≤1099511627776
     omega
   qd:=fun q e=>?_ }
  have e:s1.q.map Qd.next=some q:=e
  cases hq:s1.q with
  | none=>rw [hq] at e;cases e
  | some q0=>
    rw [hq] at e
    injection e with e
    obtain⟨a1,a2,a3,a4,a5,a6,a7⟩:=h1.qd q0 hq
    rw [← e]
    exact⟨a1,a2,a3,a4,by show 0≤q0.last+1;omega,by show q0.last+1≤((c+1:Nat):Int);omega,a7⟩
theorem Okg.tick0 {c:Nat} {s:Nd} (h:Okg c s) (hc:c<1000000000):Okg (c+1) s.tick0.1:=by
 have hu:=h.up (Nat.le_succ c)
 unfold Nd.tick0
 dsimp only
 split
 ·exact hu
 ·have hr:Okg (c+1) (if s.decides then s.decide_ else if s.late then s.propose else if s.in_ then s.ask else (s,[])).1:=by
   split
   ·exact h.decide_ hc
   ·split
    ·exact h.propose.up (Nat.le_succ c)
    ·split
     ·exact h.pfask
     ·exact hu
  split
  ·next u l hv=>
   split
   ·next he=>exact (h.gather hv (by simpa using he)).up (Nat.le_succ c)
   ·exact hr
  ·exact hr
theorem Okg.tick {c:Nat} {s:Nd} (h:Okg c s) (hc:c<100000000):Okg (c+3) s.tick.1:=by
 have h1:=(h.clk.tick0 (by omega)).settle
 exact h1
end
end Go.Proofs.YtbonjbokofkafaaGreat
