/- Lemmas of the proof: PkL. -/
import Derived.Test.YtbonjbokofkafaaGreatPkE
import Derived.Test.YtbonjbokofkafaaGreatPkD
import Derived.Deep.DeepCutAuto
import Derived.Test.YtbonjbokofkafaaGreatPkB
import Derived.Test.YtbonjbokofkafaaGreatPkH
namespace Go.Proofs.YtbonjbokofkafaaGreat
set_option linter.unusedVariables false
set_option maxRecDepth 100000
set_option maxHeartbeats 64000000
section
open Go.RowKit
theorem Ze8 (n:Int):(Z11 n).length≤10:=(Z2e _).1
theorem Z14:∀ l:List Int,(l.flatMap Z11).length≤10*l.length
 | []=>by simp
 | x :: l=>by have:=Z14 l;have:=Ze8 x;rw [List.flatMap_cons,List.length_append,List.length_cons];omega
theorem encE_len (e:Ent) (h:e.data.size≤16):(Z9p e).length≤100:=by
 unfold Z9p
 have:=Z14 (Z93 e)
 have:=Ze8 e.data.size
 have h6:(Z93 e).length=6:=rfl
 simp only [List.length_append,Z17]
 omega
theorem Z2v:∀ l:List Ent,(∀ e ∈ l,e.data.size≤16)→(Z1g l).length≤100*l.length
 | [],_=>by simp [Z1g]
 | x :: l,h=>by
   have h1:=Z2v l fun e he=>h e (List.mem_cons_of_mem _ he)
   have h2:=encE_len x (h x (List.mem_cons_self ..))
   unfold Z1g at h1 ⊢
   rw [List.flatMap_cons,List.length_append,List.length_cons];omega
theorem Zim (m:Ms):(Z95 m).length=13:=rfl
theorem Z9a {m:Ms} (h:MayM m):∀ x ∈ Z95 m,0≤x∧x≤1099511627776:=by
 obtain⟨k1,k2,f1,f2,t1,t2,ft,b1,b2,v1,v2,l1,l2,n1,n2,c1,c2,m1,m2,p1,p2,o1,o2,e1,e2⟩:=h
 intro x hx
 simp only [Z95,List.mem_cons,List.not_mem_nil,or_false] at hx
 have hy:(0:Int)≤(if m.yes then 1 else 0)∧(if m.yes then 1 else 0:Int)≤1:=by split<;>omega
 rcases hx with rfl | rfl | rfl | rfl | rfl | rfl | rfl | rfl | rfl | rfl | rfl | rfl | rfl<;>omega
theorem Z59 {m:Ms} (h:MayM m):∀ e ∈ m.ents,e.data.size≤16:=fun e he=>Z1l (h.e2 e he)
end
section
open Go.RowKit
theorem Z5z (lo hi:Int) (v:Value) (l:List Int) (w:World) (hr:rdI w v l) :
  Calls Tryz.prog 221 #[.int .i64 lo, .int .i64 hi,v] w fun e w'=>e=.returned (.bool (inB lo hi l))∧w=w':=by
 obtain⟨a,cap,rfl,hm,hM,ha⟩:=hr
 unfold maxLen at hM
 go_enter Tryz.func221,Tryz.ntmps221
 go_wp2
 go_loop [11] (fun i=>∃ k:Nat,k≤l.length∧i=.int .i64 k∧inB lo hi (l.take k)=true) (fun i=>l.length-(intOf i).toNat)
 case atStart=>exact⟨0,Nat.zero_le _,rfl,rfl⟩
 case round=>
  obtain⟨k,hk,rfl,hI⟩:=hrel
  replace hI:=hd_ hI
  by_cases hlt:k<l.length
  ·obtain⟨b,off,rfl,hc⟩:=ha (by omega)
   have a0:=hc k hlt
   have hs:=Zdx lo hi l k hlt
   rw [hI.out,Bool.true_and] at hs
   clear hc ha
   generalize l[k]=x at a0 hs
   replace hs:=hd_ hs
   by_cases h1:lo≤x
   ·by_cases h2:x≤hi
    ·go_wp2
     go_round
     case rel=>exact⟨k+1,by omega,by go_num,by rw [hs.out];simp [h1,h2]⟩
     case measure=>simp [intOf];omega
    ·go_wp2
     go_ret
     exact⟨Z0b (by rw [Z4z lo hi l (k+1) (by rw [hs.out];simp;omega)]),rfl⟩
   ·go_wp2
    go_ret
    exact⟨Z0b (by rw [Z4z lo hi l (k+1) (by rw [hs.out];simp;omega)]),rfl⟩
  ·obtain rfl:k=l.length:=by omega
   rw [List.take_length] at hI
   go_wp2
   go_ret
   exact⟨Z0b hI.out.symm,rfl⟩
theorem rdI_four {n:Nat} (w:World) (a b c d:Int) (E:TypeId) (hn:n=w.heap.size):rdI (w.alloc (.cells #[.int .i64 a, .int .i64 b, .int .i64 c, .int .i64 d] E)) (.slice (some ⟨n,0,none⟩) 4 4) [a,b,c,d]:=by
 subst hn
 exact⟨_,_,rfl,by simp,by decide,fun _=>⟨w.heap.size,0,rfl,fun j hj=>by match j,hj with | 0,_=>simp | 1,_=>simp | 2,_=>simp | 3,_=>simp⟩⟩
theorem Zin (e:Ent) (w:World) (h:Z2l e=true):Calls Tryz.prog 222 #[e.val] w fun r w'=>r=.returned (.bool false)∧Below w.heap.size w w':=by
 have h':=hd_ h
 simp only [Ent.val]
 go_enter Tryz.func222,Tryz.ntmps222
 go_wp2_with fail
 refine (Z4b e _).mono ?_
 rintro r w1 ⟨rfl,hb⟩
 rw [h'.out]
 replace hb:=hd_ (Z1z _ hb)
 go_wp2
 go_ret
 exact⟨rfl,hb.out⟩
theorem Zci (v:Value) (l:List Ent) (w:World) (hr:rdE w v l) (hl:∀ e ∈ l,Z2l e=true) :
  Calls Tryz.prog 228 #[v, .func (.func 222) #[] #[]] w fun r w'=>r=.returned (.int .i64 (-1))∧Below w.heap.size w w':=by
 obtain⟨a,cap,rfl,hm,hM,ha⟩:=hr
 unfold maxLen at hM
 replace ha:=hd_ ha;replace hl:=hd_ hl
 go_enter Tryz.func228,Tryz.ntmps228
 go_wp2
 go_loopw [8] (fun i wr=>∃ k:Nat,k≤l.length∧i=.int .i64 k∧Below w.heap.size w wr) (fun i _=>l.length-(intOf i).toNat)
 case atStart=>exact⟨0,Nat.zero_le _,rfl,Below.refl _ _⟩
 case round=>
  obtain⟨k,hk,rfl,a0⟩:=hrel
  by_cases hlt:k<l.length
  ·obtain⟨bl,off,rfl,hc⟩:=ha.out (by omega)
   have e0:=Z1o (hc k hlt) a0
   have hs:=hd_ (hl.out _ (List.getElem_mem hlt))
   clear hc
   generalize l[k]=x at e0 hs
   obtain⟨c0,c1,c2,c3,c4,c5,c6⟩:=e0
   go_wp2_with fail
   refine (Zin x _ hs.out).mono ?_
   rintro r w1 ⟨rfl,d0⟩
   have b0:=a0.trans (d0.mono a0.size)
   clear d0 a0 c0 c1 c2 c3 c4 c5 c6;go_wp2
   go_roundw
   case rel=>exact⟨k+1,by omega,by go_num,b0⟩
   case measure=>simp [intOf];omega
  ·obtain rfl:k=l.length:=by omega
   go_wp2
   go_ret
   exact⟨rfl,a0⟩
theorem Z7x (v:Value) (l:List Ent) (w:World) (hr:rdE w v l) (hl:∀ e ∈ l,Z2l e=true) :
  Calls Tryz.prog 211 #[v, .func (.func 222) #[] #[]] w fun r w'=>r=.returned (.bool false)∧Below w.heap.size w w':=by
 go_enter Tryz.func211,Tryz.ntmps211
 go_wp2_with fail
 refine (Zci v l w hr hl).mono ?_
 rintro r w1 ⟨rfl,a0⟩;go_wp2
 go_ret
 exact⟨rfl,a0⟩
theorem wMay_ok (m:Ms) (s:Value) (w:World) (h:MayM m) (hs:rdE w s m.ents) :
  Calls Tryz.prog 196 #[Z0w m s] w fun r w'=>r=.returned (.bool true)∧Below w.heap.size w w':=by
 obtain⟨k,f,t,b,v,l,me,po,es,co,nu,cl,y⟩:=m
 obtain⟨k1,k2,f1,f2,t1,t2,ft,b1,b2,v1,v2,l1,l2,n1,n2,c1,c2,m1,m2,p1,p2,o1,o2,e1,e2⟩:=h
 dsimp only at *
 have b0:=hd_ hs
 obtain⟨a,cap,rfl,hm,hM,ha⟩:=hs
 clear ha
 unfold maxLen at hM
 replace e2:=hd_ e2
 have i1:Hid (inB 1 13 [k]=true):=hd_ (by simp [inB];omega)
 have i2:Hid (inB 1 7 [f,t]=true):=hd_ (by simp [inB];omega)
 have i3:Hid (inB 1 1099511627776 [b]=true):=hd_ (by simp [inB];omega)
 have i4:Hid (inB 0 1099511627776 [v,l,nu,cl]=true):=hd_ (by simp [inB];omega)
 have i5:Hid (inB 0 127 [me]=true):=hd_ (by simp [inB];omega)
 have i6:Hid (inB 0 60 [po,co]=true):=hd_ (by simp [inB];omega)
 have ft':(f != t)=true:=by simpa using ft
 have ft2:(f==t)=false:=by simpa using ft
 have e1':(es.length:Int)≤60:=by omega
 clear k1 k2 f1 f2 t1 t2 ft b1 b2 v1 v2 l1 l2 n1 n2 c1 c2 m1 m2 p1 p2 o1 o2
 go_enter Tryz.func196,Tryz.ntmps196
 go_wp2_with fail
 refine (Z5z _ _ _ [k] _ (Z6y _ _ _ (by simp))).mono ?_
 rintro r w1 ⟨rfl,rfl⟩
 rw [i1.out]
 go_wp2_with fail
 refine (Z5z _ _ _ [f,t] _ (Z8s _ _ _ _ (by simp))).mono ?_
 rintro r w1 ⟨rfl,rfl⟩
 rw [i2.out]
 go_wp2_with fail
 refine (Z5z _ _ _ [b] _ (Z6y _ _ _ (by simp))).mono ?_
 rintro r w1 ⟨rfl,rfl⟩
 rw [i3.out]
 go_wp2_with fail
 refine (Z5z _ _ _ [v,l,nu,cl] _ (rdI_four _ _ _ _ _ _ (by simp))).mono ?_
 rintro r w1 ⟨rfl,rfl⟩
 rw [i4.out]
 go_wp2_with fail
 refine (Z5z _ _ _ [me] _ (Z6y _ _ _ (by simp))).mono ?_
 rintro r w1 ⟨rfl,rfl⟩
 rw [i5.out]
 go_wp2_with fail
 refine (Z5z _ _ _ [po,co] _ (Z8s _ _ _ _ (by simp))).mono ?_
 rintro r w1 ⟨rfl,rfl⟩
 rw [i6.out]
 go_wp2_with fail
 refine (Z7x _ es _ (b0.out.grow (((((((((Below.refl w.heap.size w).alloc (Nat.le_refl _) _).alloc (by simp) _).alloc (by simp<;>omega) _).alloc (by simp<;>omega) _).alloc (by simp<;>omega) _).alloc (by simp<;>omega) _).alloc (by simp<;>omega) _))) e2.out).mono ?_
 rintro r w1 ⟨rfl,a0⟩
 have hB:Below w.heap.size w w1:=(((((((((Below.refl w.heap.size w).alloc (Nat.le_refl _) _).alloc (by simp) _).alloc (by simp<;>omega) _).alloc (by simp<;>omega) _).alloc (by simp<;>omega) _).alloc (by simp<;>omega) _).alloc (by simp<;>omega) _)).trans (a0.mono (by simp<;>omega))
 replace hB:=hd_ hB;clear a0;go_wp2
 go_ret
 exact⟨rfl,hB.out⟩
end
section
open Go.RowKit
theorem Z9b {w:World} {g n:Nat} {cs:Array Value} {T:TypeId} {fr:Nat × Nat} {size m:Nat} (h:w.heap[g]?=some (.cells cs T fr)) (hc:cs.size=m*size):srcRow w size (.slice (some ⟨g,0,none⟩) m n) m cs.toList:=by
 refine⟨by simpa using hc, .inr ⟨_,_,rfl,fun j u hu=>?_⟩⟩
 have e:(⟨g,0,none⟩:Addr).add j=⟨g,j,none⟩:=by
  unfold Addr.add;split
  ·next h=>subst h;rfl
  ·simp
 rw [e,Z00 h]
 simpa using hu
theorem Zio (v:Value) (l:List UInt8) (n:Nat) (w:World) (h:ownB w 0 v l) (hl:l.length≤100000) (hn:n≤1099511627776) :
  Calls Tryz.prog 198 #[v, .int .i64 (n:Int)] w fun r w'=>∃ v',r=.returned v'∧ownB w' 0 v' (l++Z4c (2*n))∧Chg (fun k=>v.ownBlock=some k) w w'∧∀ k,v'.ownBlock=some k→v.ownBlock=some k∨w.heap.size≤k:=by
 obtain⟨i0,hi,q0,n0,m0⟩:=info_parts Z1p
 replace hi:=hd_ hi
 obtain⟨T,hT⟩:∃ T,l++Z4c (2*n)=T:=⟨_,rfl⟩
 rw [hT]
 replace hT:=hd_ hT;replace h:=hd_ h
 obtain⟨F,hF⟩:∃ F:Nat→Prop,F=fun k=>v.ownBlock=some k:=⟨_,rfl⟩
 have s0:Hid (∀ k,v.ownBlock=some k→F k):=hd_ (by rw [hF];exact fun k hk=>hk)
 rw [← hF]
 have r0:Hid (∀ k,F k→v.ownBlock=some k):=hd_ (by rw [hF];exact fun k hk=>hk)
 replace hF:=hd_ hF
 go_enter Tryz.func198,Tryz.ntmps198
 go_wp2
 go_loopw [0,5] (fun s x wr=>∃ (A:List UInt8) (f u:Nat),f≤9∧A.length+f=l.length+9∧x=.int .u64 (u:Int)∧u<128 ^ (f+1)∧u≤2199023255552∧A++Z36 f u=T∧ownB wr 0 s A∧Chg F w wr∧∀ k,s.ownBlock=some k→F k∨w.heap.size≤k) (fun _ x _=>(intOf x).toNat)
 case atStart=>exact⟨l,9,2*n,Nat.le_refl _,rfl,by congr 1;omega,by omega,by omega,hT.out,h.out,Chg.refl _ _,fun k hk=>.inl (s0.out k hk)⟩
 case round=>
  obtain⟨A,f,u,hf,hAl,rfl,hu,hu2,hA,b0,d0,j0⟩:=hrel
  have hsz:=d0.size
  have o0:=hi.out
  unfold ownB at b0
  replace b0:=hd_ b0;replace d0:=hd_ d0;replace hA:=hd_ hA;replace j0:=hd_ j0;replace hu:=hd_ hu
  by_cases hbig:u<128
  ·have t0:¬ (u:Int) > 127:=by omega
   go_wp2_with (first
    | (at_builtin;refine Z15 rfl _ _ 103 rfl 0 5 i0 (.int .u8 0) 1 1 Tryz.underlying103 o0 q0 n0 m0 rfl (by decide) _ _ _ rfl (World.ownsRow.alloc b0.out _) (.slice (some ⟨wr.heap.size,0,none⟩) 1 1) 1 [.int .u8 (u:Int)] rfl ?c1 ?c2 ?c3 ?c4 (Nat.zero_le _) ?_))
   case c1=>exact Z9b (Z0a wr _) rfl
   case c2=>rfl
   case c3=>unfold maxLen;omega
   case c4=>omega
   intro v7 w7 a0 k0 c0
   have h0:T=A++[UInt8.ofNat u]:=by rw [← hA.out,Z25 hbig]
   have e0:ownB w7 0 v7 T:=by
    rw [h0]
    unfold ownB
    rw [List.length_append,Z0t]
    have:Z0q [UInt8.ofNat u]=[.int .u8 (u:Int)]:=by unfold Z0q;simp;omega
    rw [this];exact a0
   have f0:Chg F w w7:=Z10 (Z1a d0.out) k0 j0.out
   have g0:∀ k,v7.ownBlock=some k→F k∨w.heap.size≤k:=fun k hk=>by
    rcases c0 with e | e
    ·exact j0.out k (e ▸ hk)
    ·rw [e] at hk;injection hk with hk;right;omega
   clear k0 c0 a0 h0;replace e0:=hd_ e0;replace f0:=hd_ f0;replace g0:=hd_ g0;go_wp2
   go_ret
   exact⟨v7,rfl,e0.out,f0.out,fun k hk=>(g0.out k hk).imp (r0.out k) id⟩
  ·have t0:(u:Int) > 127:=by omega
   go_wp2_with (first
    | (at_builtin;refine Z15 rfl _ _ 103 rfl 0 5 i0 (.int .u8 0) 1 1 Tryz.underlying103 o0 q0 n0 m0 rfl (by decide) _ _ _ rfl (World.ownsRow.alloc b0.out _) (.slice (some ⟨wr.heap.size,0,none⟩) 1 1) 1 [.int .u8 (bits .or .u8 ((u:Int) % 256) 128)] rfl ?d1 ?d2 ?d3 ?d4 (Nat.zero_le _) ?_))
   case d1=>exact Z9b (Z0a wr _) rfl
   case d2=>intro x hx;simp at hx;subst hx;rfl
   case d3=>unfold maxLen;omega
   case d4=>omega
   intro v7 w7 a0 k0 c0
   obtain⟨f',rfl⟩:∃ f',f=f'+1:=by
    cases f with
    | zero=>exact absurd (by simpa using hu.out) hbig
    | succ f'=>exact⟨f',rfl⟩
   have p0:bits .or .u8 ((u:Int) % 256) 128=((UInt8.ofNat (u % 128+128)).toNat:Int):=by
    rw [show (u:Int) % 256=((u % 256:Nat):Int) by omega,show (128:Int)=((128:Nat):Int) from rfl,u8_or_nat _ _ (by omega) (by omega),or_128 _ (by omega),UInt8.toNat_ofNat']
    omega
   have h0:(A++[UInt8.ofNat (u % 128+128)])++Z36 f' (u / 128)=T:=by rw [← hA.out,Z3w hbig];simp
   have l0:u / 128<128 ^ (f'+1):=Nat.div_lt_of_lt_mul (by rw [Nat.mul_comm,← Nat.pow_succ];exact hu.out)
   have e0:ownB w7 0 v7 (A++[UInt8.ofNat (u % 128+128)]):=by
    unfold ownB
    rw [List.length_append,Z0t]
    have:Z0q [UInt8.ofNat (u % 128+128)]=[.int .u8 (bits .or .u8 ((u:Int) % 256) 128)]:=by rw [p0];rfl
    rw [this];exact a0
   have f0:Chg F w w7:=Z10 (Z1a d0.out) k0 j0.out
   have g0:∀ k,v7.ownBlock=some k→F k∨w.heap.size≤k:=fun k hk=>by
    rcases c0 with e | e
    ·exact j0.out k (e ▸ hk)
    ·rw [e] at hk;injection hk with hk;right;omega
   clear k0 c0 a0 p0;replace e0:=hd_ e0;replace f0:=hd_ f0;replace g0:=hd_ g0;replace h0:=hd_ h0;replace l0:=hd_ l0;go_wp2
   go_roundw
   case rel=>exact⟨A++[UInt8.ofNat (u % 128+128)],f',u / 128,by omega,by simp;omega,by congr 1,l0.out,by omega,h0.out,e0.out,f0.out,g0.out⟩
   case measure=>simp [intOf];omega
end
section
open Go.RowKit
theorem Z3l (n:Nat):Z11 (n:Int)=Z4c (2*n):=rfl
theorem Ze9 (e:Ent) (h:e.data.size≤60):Z9p e=(Z93 e).flatMap Z11++Zfg e.data:=by
 unfold Z9p Zfg
 congr 1
 rw [Z3l]
 unfold Z4c
 rw [Z25 (by omega)]
 rfl
theorem Z60 (l:List Ent) (k:Nat) (h:k<l.length):Z1g (l.take (k+1))=Z1g (l.take k)++Z9p l[k]:=by
 unfold Z1g
 rw [List.take_succ_eq_append_getElem h,List.flatMap_append]
 simp
theorem Z4n (l:List Ent) (k:Nat) (h:∀ e ∈ l,e.data.size≤16):(Z1g (l.take k)).length≤100*k:=by
 have:=Z2v (l.take k) fun e he=>h e (List.mem_of_mem_take he)
 rw [List.length_take] at this
 have:min k l.length≤k:=Nat.min_le_left _ _
 omega
theorem Z9c {e:Ent} (h:Z2l e=true):∀ x ∈ Z93 e,0≤x∧x≤1099511627776:=by
 have:=Zc4 e
 rw [h] at this
 simp [inB] at this
 intro x hx
 simp only [Z93,List.mem_cons,List.not_mem_nil,or_false] at hx
 rcases hx with rfl | rfl | rfl | rfl | rfl | rfl<;>omega
theorem Z5a {P:Program} {t e:TypeId} {len:Nat} {i:TypeInfo} {k:IntKind} (ht:P.underlying t=some (.array len e)) (he:P.underlying e=some (.int k)) (hi:P.info? e=some i) (hs:i.size=1) (cs:Array Value) (j:Nat) (hj:j<len) (v:Value) (hc:cs[j]?=some v) (w:World) :
  (Instr.index t (.agg cs) (.int .i64 (j:Int))).run P w=.ok v w:=by
 simp [Instr.index,hj,run_underlying ht,sizeOf,typeInfo,hi,hs,part,isAgg,run_underlying he,hc,asIntOf]
theorem Zfr (cs:Array Value) (j:Nat) (hj:j<6) (v:Value) (hc:cs[j]?=some v) (w:World):(Instr.index 260 (.agg cs) (.int .i64 (j:Int))).run Tryz.prog w=.ok v w:=by
 obtain⟨i0,hi,hz0,hz1,hz2⟩:=info_parts Zc9
 exact Z5a (k:=.i64) (show Tryz.prog.underlying 260=some (.array 6 2) from by kernel_rfl) (by kernel_rfl) hi hz1 cs j hj v hc w
theorem Zcj (cs:Array Value) (j:Nat) (hj:j<13) (v:Value) (hc:cs[j]?=some v) (w:World):(Instr.index 213 (.agg cs) (.int .i64 (j:Int))).run Tryz.prog w=.ok v w:=by
 obtain⟨i0,hi,hz0,hz1,hz2⟩:=info_parts Zc9
 exact Z5a (k:=.i64) (show Tryz.prog.underlying 213=some (.array 13 2) from by kernel_rfl) (by kernel_rfl) hi hz1 cs j hj v hc w
theorem Z7d (v:Value) (l:List Ent) (w:World) (hr:rdE w v l) (hl:∀ e ∈ l,Z2l e=true) (h60:l.length≤60) :
  Calls Tryz.prog 195 #[v] w fun r w'=>∃ v',r=.returned v'∧ownB w' w.heap.size v' (Z1g l)∧Below w.heap.size w w':=by
 have m0:∀ e ∈ l,e.data.size≤16:=fun e he=>Z1l (hl e he)
 obtain⟨a,i1,rfl,hm,hM,ha⟩:=hr
 unfold maxLen at hM
 replace ha:=hd_ ha;replace hl:=hd_ hl;replace m0:=hd_ m0
 go_enter Tryz.func195,Tryz.ntmps195
 go_wp2
 go_loopw [3,10] (fun s i wr=>∃ k:Nat,k≤l.length∧i=.int .i64 k∧ownB wr w.heap.size s (Z1g (l.take k))∧Below w.heap.size w wr) (fun _ i _=>l.length-(intOf i).toNat)
 case atStart=>exact⟨0,Nat.zero_le _,rfl,World.ownsRow_nil _ _ _ _,Below.refl _ _⟩
 case round=>
  obtain⟨k,hk,rfl,b0,e0⟩:=hrel
  have o1:=e0.size
  have u1:=Z4n l k m0.out
  by_cases hlt:k<l.length
  ·obtain⟨bl,off,rfl,hc⟩:=ha.out (by omega)
   have n1:=Z1o (hc k hlt) e0
   have y0:=hd_ (hl.out _ (List.getElem_mem hlt))
   have f1:=hd_ (Z60 l k hlt)
   clear hc
   generalize l[k]=x at n1 y0 f1
   generalize Z1g (l.take k)=A at b0 f1 u1
   obtain⟨c0,c1,c2,c3,c4,c5,c6⟩:=n1
   replace b0:=hd_ b0;replace e0:=hd_ e0;go_wp2_with fail
   refine (Z4b x _).mono ?_
   rintro r w1 ⟨rfl,v0⟩
   rw [y0.out]
   have g0:=Z02 (Z0a wr (boxE x)) v0
   have p1:wr.heap.size≤w1.heap.size:=Nat.le_trans (by simp) v0.size
   have t0:=hd_ (ownB.grow b0.out (Z1z _ v0))
   have q0:=hd_ (e0.out.trans ((Z1z _ v0).mono o1))
   have x0:=Z00 g0 0
   have x1:=Z00 g0 1
   have x2:=Z00 g0 2
   have x3:=Z00 g0 3
   have x4:=Z00 g0 4
   have x5:=Z00 g0 5
   simp only [List.getElem?_toArray,List.getElem?_cons_zero,List.getElem?_cons_succ] at x0 x1 x2 x3 x4 x5
   have t1:=Z04 g0
   obtain⟨nb,p0⟩:∃ nb,nb=wr.heap.size:=⟨_,rfl⟩
   rw [← p0] at g0
   replace g0:=hd_ g0;replace p0:=hd_ p0
   have s1:Hid (∀ k,u3.ownBlock=some k→w.heap.size≤k∧k≠nb):=hd_ fun k hk=>⟨(b0.out.lt k hk).1,by have:=(b0.out.lt k hk).2;have:=p0.out;omega⟩
   have r0:w.heap.size≤w1.heap.size:=by omega
   clear v0 b0 e0 c0 c1 c2 c3 c4 c5 c6
   obtain⟨ns,o0⟩:∃ ns,Z93 x=ns:=⟨_,rfl⟩
   have hn6:ns.length=6:=by rw [← o0];rfl
   have k0:#[Value.int .i64 x.frm, .int .i64 x.boot, .int .i64 x.seq, .int .i64 x.ord, .int .i64 x.lev, .int .i64 x.stamp]=(ns.map (Value.int .i64)).toArray:=by rw [← o0];rfl
   have s0:=hd_ (Z9c y0.out)
   rw [o0] at s0
   have v1:x.data.size≤16:=Z1l y0.out
   have m1:=hd_ (Ze9 x (by omega))
   rw [o0] at m1
   replace o0:=hd_ o0;replace k0:=hd_ k0;go_upto_region 8 with (fail)
   rw [k0.out]
   go_loopw [3,30] (fun s i wr=>∃ j:Nat,j≤6∧i=.int .i64 j∧ownB wr 0 s (A++(ns.take j).flatMap Z11)∧Chg (fun k=>w.heap.size≤k∧k≠nb) w1 wr∧∀ k,s.ownBlock=some k→w.heap.size≤k∧k≠nb) (fun _ i _=>6-(intOf i).toNat)
   case atStart=>exact⟨0,Nat.zero_le _,rfl,by simpa using Z3y t0.out (Nat.zero_le _),Chg.refl _ _,s1.out⟩
   case round=>
    obtain⟨j,hj,rfl,a0,d0,f0⟩:=hrel
    have k1:=Z14 (ns.take j)
    rw [List.length_take] at k1
    have r1:=d0.size
    by_cases hlt6:j<6
    ·have g1:j<ns.length:=by omega
     have j0:Hid ((ns.take (j+1)).flatMap Z11=(ns.take j).flatMap Z11++Z11 ns[j]):=hd_ (by rw [List.take_succ_eq_append_getElem g1,List.flatMap_append];simp)
     have w0:=s0.out _ (List.getElem_mem g1)
     have c1:(ns.map (Value.int .i64)).toArray[j]?=some (.int .i64 ns[j]):=by simp [g1]
     have h1:=Zfr _ j hlt6 _ c1
     generalize ns[j]=y at c1 j0 w0 h1
     obtain⟨z,rfl⟩:=Int.eq_ofNat_of_zero_le w0.1
     have hz:=w0.2
     have l1:Z11 (z:Int)=Z4c (2*z):=rfl
     rw [l1] at j0
     clear w0 c1 l1
     generalize (ns.take j).flatMap Z11=B at a0 j0 k1
     have n0:(A++B).length≤100000:=by rw [List.length_append];omega
     replace a0:=hd_ a0;replace d0:=hd_ d0;replace f0:=hd_ f0;go_wp2_with fail
     refine (Zio _ (A++B) z _ a0.out n0 (by omega)).mono ?_
     rintro r w5 ⟨v5,rfl,i0,u0,j1⟩
     rw [List.append_assoc,← j0.out] at i0
     have l0:=d0.out.more u0 fun i hi=>.inl (f0.out i hi)
     have b1:∀ k,v5.ownBlock=some k→w.heap.size≤k∧k≠nb:=fun k hk=>(j1 k hk).elim (f0.out k) fun h=>⟨by omega,by have:=p0.out;omega⟩
     clear u0 j1 h1;replace i0:=hd_ i0;replace l0:=hd_ l0;replace b1:=hd_ b1;go_wp2
     go_roundw
     case rel=>exact⟨j+1,by omega,by go_num,i0.out,l0.out,b1.out⟩
     case measure=>simp [intOf];omega
    ·obtain rfl:j=6:=by omega
     rw [List.take_of_length_le (by omega)] at a0
     have d1:=Z0g g0.out d0 (fun h=>h.2 rfl)
     have u6:=Z00 d1 6
     simp only [List.getElem?_toArray,List.getElem?_cons_zero,List.getElem?_cons_succ] at u6
     have z0:=Z04 d1
     rw [p0.out] at u6 z0
     have a1:Below w.heap.size w wr:=q0.out.trans (d0.below r0 fun k h=>h.1)
     have h0:ownB wr w.heap.size u3 (A++ns.flatMap Z11):=⟨a0.1,a0.2.imp id (by
      rintro⟨g,i1,q1,rfl,e1,e2⟩
      exact⟨g,i1,q1,rfl,(f0 g rfl).1,e2⟩)⟩
     have n0:(A++ns.flatMap Z11).length≤90000:=by have:=Z14 ns;rw [List.length_append];omega
     clear d1 g0 a0 d0 f0;replace a1:=hd_ a1;replace h0:=hd_ h0;go_wp2_with fail
     refine (Zaa _ (A++ns.flatMap Z11) w.heap.size x.data _ h0.out (by omega) n0 (by omega)).mono ?_
     rintro r w5 ⟨v5,rfl,i0,u0⟩
     rw [List.append_assoc,← m1.out,← f1.out] at i0
     have l0:=a1.out.trans u0
     clear u0;replace i0:=hd_ i0;replace l0:=hd_ l0;go_wp2
     go_roundw
     case rel=>exact⟨k+1,by omega,by go_num,i0.out,l0.out⟩
     case measure=>simp [intOf];omega
  ·obtain rfl:k=l.length:=by omega
   rw [List.take_length] at b0
   replace b0:=hd_ b0;replace e0:=hd_ e0;go_wp2
   go_ret
   exact⟨_,rfl,b0.out,e0.out⟩
end
section
open Go.RowKit
theorem Zan (m:Ms) (sa:Option Addr) (sc:Nat) (w:World) (h60:m.ents.length≤60) :
  Calls Tryz.prog 197 #[Z0w m (.slice sa m.ents.length sc)] w fun r w'=>r=.returned (.agg ((Z95 m).map (Value.int .i64)).toArray)∧Below w.heap.size w w':=by
 obtain⟨k,f,t,b,v,l,me,po,es,co,nu,cl,y⟩:=m
 dsimp only at *
 cases y
 ·go_enter Tryz.func197,Tryz.ntmps197
  go_wp2
  exact bodyPost_ret (v:=.agg #[.int .i64 k, .int .i64 f, .int .i64 t, .int .i64 b, .int .i64 v, .int .i64 l, .int .i64 me, .int .i64 po, .int .i64 co, .int .i64 nu, .int .i64 cl, .int .i64 0, .int .i64 es.length]) (by simp [results,Tryz.results197,go_sem]) rfl ⟨rfl,((Below.refl _ _).alloc (Nat.le_refl _) _).alloc (by simp) _⟩
 ·go_enter Tryz.func197,Tryz.ntmps197
  go_wp2
  exact bodyPost_ret (v:=.agg #[.int .i64 k, .int .i64 f, .int .i64 t, .int .i64 b, .int .i64 v, .int .i64 l, .int .i64 me, .int .i64 po, .int .i64 co, .int .i64 nu, .int .i64 cl, .int .i64 1, .int .i64 es.length]) (by simp [results,Tryz.results197,go_sem]) rfl ⟨rfl,((Below.refl _ _).alloc (Nat.le_refl _) _).alloc (by simp) _⟩
theorem Z7e (m:Ms) (s:Value) (w:World) (h:MayM m) (hs:rdE w s m.ents) :
  Calls Tryz.prog 160 #[Z0w m s] w fun r w'=>∃ v',r=.returned v'∧ownB w' w.heap.size v' (Z4w m)∧Below w.heap.size w w':=by
 obtain⟨i0,hi,c2,z1,q1⟩:=info_parts Z1p
 replace hi:=hd_ hi
 have b2:=Z2v m.ents (Z59 h)
 have x1:=h.e1
 have m0:=hd_ (Z9a h)
 obtain⟨ns,l0⟩:∃ ns,Z95 m=ns:=⟨_,rfl⟩
 have hnl:ns.length=13:=by rw [← l0];rfl
 rw [l0] at m0
 obtain⟨eb,o0⟩:∃ eb,Z1g m.ents=eb:=⟨_,rfl⟩
 have hT:Hid (Z4w m=Z3t (ns.flatMap Z11++eb)):=hd_ (by unfold Z4w;rw [l0,o0])
 rw [hT.out]
 rw [o0] at b2
 have HE:=hd_ (fun w1 (hb:Below w.heap.size w w1)=>Z7d s m.ents w1 (hs.grow hb) h.e2 h.e1)
 rw [o0] at HE
 have HM:=hd_ (fun z (hz:Below w.heap.size w z)=>wMay_ok m s z h (hs.grow hz))
 obtain⟨sa,sc,rfl⟩:=hs.len
 have HN:=hd_ (fun z=>Zan m sa sc z h.e1)
 rw [l0] at HN
 obtain⟨k,f,t,b,v,l,me,po,es,co,nu,cl,y⟩:=m
 clear hT h l0 o0 hs
 dsimp only at *
 have HB:=hd_ ((Below.refl w.heap.size w).alloc (Nat.le_refl _) (.cells #[.int .i64 k, .int .i64 f, .int .i64 t, .int .i64 b, .int .i64 v, .int .i64 l, .int .i64 me, .int .i64 po, .slice sa es.length sc, .int .i64 co, .int .i64 nu, .int .i64 cl, .bool y] 37))
 have hx:=hd_ (Z0a w (.cells #[.int .i64 k, .int .i64 f, .int .i64 t, .int .i64 b, .int .i64 v, .int .i64 l, .int .i64 me, .int .i64 po, .slice sa es.length sc, .int .i64 co, .int .i64 nu, .int .i64 cl, .bool y] 37))
 go_enter Tryz.func160,Tryz.ntmps160
 go_wp2_with fail
 refine (HM.out _ HB.out).mono ?_
 rintro r w1 ⟨rfl,b1⟩
 have c0:=Z02 hx.out b1
 have n0:=HB.out.trans (b1.mono HB.out.size)
 have d2:=n0.size
 have u0:=Z00 c0 0
 have u1:=Z00 c0 1
 have u2:=Z00 c0 2
 have u3:=Z00 c0 3
 have u4:=Z00 c0 4
 have u5:=Z00 c0 5
 have u6:=Z00 c0 6
 have u7:=Z00 c0 7
 have u8:=Z00 c0 8
 have u9:=Z00 c0 9
 have n1:=Z00 c0 10
 have o1:=Z00 c0 11
 have j1:=Z00 c0 12
 simp only [List.getElem?_toArray,List.getElem?_cons_zero,List.getElem?_cons_succ] at u0 u1 u2 u3 u4 u5 u6 u7 u8 u9 n1 o1 j1
 have y1:=Z04 c0
 clear b1 HB hx HM
 obtain⟨nb,s0⟩:∃ nb,nb=w.heap.size:=⟨_,rfl⟩
 rw [← s0] at c0
 replace s0:=hd_ s0;replace c0:=hd_ c0;replace n0:=hd_ n0;go_wp2_with fail
 refine (HN.out _).mono ?_
 rintro r w2 ⟨rfl,r0⟩
 have v1:=hd_ (Z02 c0.out r0)
 have x0:=hd_ (n0.out.trans (r0.mono d2))
 have h1:=x0.out.size
 have a2:=r0.size
 clear u0 u1 u2 u3 u4 u5 u6 u7 u8 u9 n1 o1 j1 r0 c0 n0;go_wp2
 go_loopw [3,11] (fun s i wr=>∃ j:Nat,j≤13∧i=.int .i64 j∧ownB wr w2.heap.size s ((ns.take j).flatMap Z11)∧Below w2.heap.size w2 wr) (fun _ i _=>13-(intOf i).toNat)
 case atStart=>exact⟨0,Nat.zero_le _,rfl,World.ownsRow_nil _ _ _ _,Below.refl _ _⟩
 case round=>
  obtain⟨j,hj,rfl,a0,b0⟩:=hrel
  have d1:=b0.size
  have s1:=hi.out
  have v0:=Z14 (ns.take j)
  rw [List.length_take] at v0
  by_cases hlt:j<13
  ·have h0:j<ns.length:=by omega
   have t0:Hid ((ns.take (j+1)).flatMap Z11=(ns.take j).flatMap Z11++Z11 ns[j]):=hd_ (by rw [List.take_succ_eq_append_getElem h0,List.flatMap_append];simp)
   have q0:=m0.out _ (List.getElem_mem h0)
   have c1:(ns.map (Value.int .i64)).toArray[j]?=some (.int .i64 ns[j]):=by simp [h0]
   have f1:=Zcj _ j hlt _ c1
   generalize ns[j]=x at c1 t0 q0 f1
   obtain⟨y,rfl⟩:=Int.eq_ofNat_of_zero_le q0.1
   have hy:=q0.2
   have l1:Z11 (y:Int)=Z4c (2*y):=rfl
   rw [l1] at t0
   clear l1 q0 c1
   generalize (ns.take j).flatMap Z11=A at a0 t0 v0
   replace a0:=hd_ a0;replace b0:=hd_ b0;go_wp2_with fail
   refine (Zhy _ A w2.heap.size y _ a0.out d1 (by omega) (by omega)).mono ?_
   rintro r w5 ⟨v5,rfl,f0,k0⟩
   rw [← t0.out] at f0
   have j0:=hd_ (b0.out.trans k0)
   replace f0:=hd_ f0;clear k0 a0 b0 f1;go_wp2
   go_roundw
   case rel=>exact⟨j+1,by omega,by go_num,f0.out,j0.out⟩
   case measure=>simp [intOf];omega
  ·obtain rfl:j=13:=by omega
   rw [List.take_of_length_le (by omega)] at a0
   have v0:(ns.flatMap Z11).length≤130:=by have:=Z14 ns;omega
   obtain⟨A,hA⟩:∃ A,ns.flatMap Z11=A:=⟨_,rfl⟩
   rw [hA] at a0 v0
   replace hA:=hd_ hA
   have w0:=Z02 v1.out b0
   have u8:=Z00 w0 8
   simp only [List.getElem?_toArray,List.getElem?_cons_zero,List.getElem?_cons_succ] at u8
   have r1:=Z04 w0
   rw [s0.out] at u8 r1
   replace a0:=hd_ a0;replace b0:=hd_ b0;replace w0:=hd_ w0;go_wp2_with fail
   refine (HE.out _ (x0.out.trans (b0.out.mono h1))).mono ?_
   rintro r w5 ⟨v5,rfl,f0,k0⟩
   have d0:=a0.out.grow k0
   unfold ownB at d0
   have g0:=f0.rd.src
   have j0:=b0.out.trans (k0.mono d1)
   have g1:=j0.size
   clear f0 k0 a0;replace d0:=hd_ d0;replace g0:=hd_ g0;replace j0:=hd_ j0
   go_wp2_with (first
    | (at_builtin;refine Z15 rfl _ _ 103 rfl w2.heap.size 5 i0 (.int .u8 0) 1 1 Tryz.underlying103 s1 c2 z1 q1 rfl (by decide) _ A.length (Z0q A) rfl d0.out v5 eb.length (Z0q eb) rfl g0.out (Z26 _) (by unfold maxLen;omega) (by omega) g1 ?_))
   intro v6 w6 e0 m1 _
   have p1:ownB w6 w2.heap.size v6 (A++eb):=by
    unfold ownB
    rw [List.length_append,Z0t];exact e0
   have p0:Below w2.heap.size w2 w6:=j0.out.trans ((Below.refl w2.heap.size w5).grown m1 g1 (fun k hk=>(d0.out.lt k hk).1))
   have a1:=hd_ p1.rd
   have t1:=p0.size
   clear m1 e0 p1;replace p0:=hd_ p0;go_wp2_with fail
   refine (Zhz v6 (A++eb) w6 a1.out (by simp;omega)).mono ?_
   rintro r w7 ⟨v7,rfl,k1,i1⟩
   have z0:ownB w7 w.heap.size v7 (Z3t (A++eb)):=Z3y k1 (by omega)
   have y0:=x0.out.trans ((p0.out.trans (i1.mono t1)).mono h1)
   replace z0:=hd_ z0;replace y0:=hd_ y0;clear k1 i1;go_wp2
   go_ret
   exact⟨v7,rfl,by rw [hA.out];exact z0.out,y0.out⟩
end
section
open Go.RowKit
theorem Z6q {w:World} {g off n cap:Nat} {l:List UInt8} (h:rdB w (.slice (some ⟨g,off,none⟩) n cap) l) (A:Nat) (hA:A≤l.length):rdB w (.slice (some ⟨g,off+A,none⟩) (n-A) (cap-A)) (l.drop A):=by
 obtain⟨a',c',e,hm,hM,ha⟩:=h
 cases e
 refine⟨_,_,by rw [List.length_drop],by rw [List.length_drop];omega,by omega,fun h0=>?_⟩
 rw [List.length_drop] at h0
 obtain⟨b,o,e,hc⟩:=ha (by omega)
 cases e
 refine⟨_,_,rfl,fun j hj=>?_⟩
 rw [List.length_drop] at hj
 have:=hc (A+j) (by omega)
 rw [← Nat.add_assoc] at this
 rw [this,List.getElem_drop]
def Zby (N:Nat) (ns:List Int) (j:Nat):Array Value:=((ns.take j).map (Value.int .i64)++List.replicate (N-j) (Value.int .i64 0)).toArray
theorem Zea {N:Nat} {ns:List Int} (h:ns.length=N) {j:Nat} (hj:j<N):(Zby N ns j).setIfInBounds j (Value.int .i64 (ns[j]'(by omega)))=Zby N ns (j+1):=by
 have c0:j<ns.length:=by omega
 obtain⟨r,hr⟩:∃ r,N-j=r+1:=⟨N-j-1,by omega⟩
 have b0:N-(j+1)=r:=by omega
 have a0:((ns.take j).map (Value.int .i64)).length=j:=by rw [List.length_map,List.length_take];omega
 unfold Zby
 rw [hr,b0,List.take_succ_eq_append_getElem c0,List.setIfInBounds_toArray]
 congr 1
 rw [List.set_append_right _ _ (by rw [a0];exact Nat.le_refl _),a0,Nat.sub_self,List.replicate_succ,List.set_cons_zero,List.map_append,List.append_assoc]
 rfl
theorem Zao {N:Nat} {ns:List Int} (h:ns.length=N):Zby N ns N=(ns.map (Value.int .i64)).toArray:=by
 unfold Zby
 rw [List.take_of_length_le (by omega)];simp
theorem Zfs (ns:List Int) (j:Nat) (hj:j<ns.length):ns.flatMap Z11=(ns.take j).flatMap Z11++(Z11 ns[j]++(ns.drop (j+1)).flatMap Z11):=by
 have e:ns.take j++(ns[j] :: ns.drop (j+1))=ns:=by rw [← List.drop_eq_getElem_cons hj,List.take_append_drop]
 have e2:(ns.take j++(ns[j] :: ns.drop (j+1))).flatMap Z11=(ns.take j).flatMap Z11++(Z11 ns[j]++(ns.drop (j+1)).flatMap Z11):=by rw [List.flatMap_append,List.flatMap_cons]
 rw [e] at e2
 exact e2
theorem Zip (ns:List Int) (rest:List UInt8) (j:Nat) (hj:j<ns.length):((ns.flatMap Z11)++rest).drop ((ns.take j).flatMap Z11).length=Z11 ns[j]++((((ns.drop (j+1)).flatMap Z11))++rest):=by
 rw [Zfs ns j hj,List.append_assoc,List.drop_left,List.append_assoc]
theorem eOne_any (e:Ent) (v:Value) (l rest:List UInt8) (w:World) (h:rdB w v l) (hl:l=Z9p e++rest) (hme:Z2l e=true) (hlen:l.length≤100000) :
  Calls Tryz.prog 194 #[v] w fun r w'=>r=.returned (.tuple #[e.val, .int .i64 ((Z9p e).length:Int)])∧Below w.heap.size w w':=by
 have p1:e.data.size≤16:=Z1l hme
 have r0:=hd_ (Z9c hme)
 obtain⟨ns,n0⟩:∃ ns,Z93 e=ns:=⟨_,rfl⟩
 have j1:ns.length=6:=by rw [← n0];rfl
 rw [n0] at r0
 have l0:#[Value.int .i64 e.frm, .int .i64 e.boot, .int .i64 e.seq, .int .i64 e.ord, .int .i64 e.lev, .int .i64 e.stamp]=(ns.map (Value.int .i64)).toArray:=by rw [← n0];rfl
 have k0:l=ns.flatMap Z11++((Z11 e.data.size++e.data.data.toList)++rest):=by rw [hl];unfold Z9p;rw [n0];simp
 have o1:Hid ((Z9p e).length=(ns.flatMap Z11).length+((Z4c (2*e.data.size)).length+e.data.size)):=hd_ (by unfold Z9p;rw [n0,Z3l];simp)
 have h':=hd_ h
 have i1:0<l.length:=by
  rw [k0]
  have:=(Z2e (2*e.data.size)).2
  rw [Z3l]
  simp only [List.length_append];omega
 obtain⟨a,h1,rfl,hm,hM,ha⟩:=h
 obtain⟨g,off,rfl,hc⟩:=ha i1
 unfold maxLen at hM
 clear hc ha n0;replace l0:=hd_ l0;replace k0:=hd_ k0;replace hl:=hd_ hl
 obtain⟨n,hn⟩:∃ n,l.length=n:=⟨_,rfl⟩
 rw [hn] at hm i1 hlen h' ⊢
 have hgl:g<w.heap.size:=by
  obtain⟨_,_,e1,_,_,h2⟩:=h'.out
  cases e1
  obtain⟨_,_,e2,h3⟩:=h2 (by omega)
  cases e2
  exact Z0f (h3 0 (by omega))
 replace hn:=hd_ hn
 obtain⟨nb,j0⟩:∃ nb,nb=w.heap.size+1:=⟨_,rfl⟩
 replace j0:=hd_ j0
 obtain⟨rb,s0⟩:∃ rb,rb=w.heap.size:=⟨_,rfl⟩
 have n1:rb≠nb:=by have:=j0.out;omega
 replace s0:=hd_ s0
 have v0:Hid (∀ w':World,w'.heap[nb]?=some (.cells (Zby 6 ns 6) 260 (0,0))→w'.heap[nb]?=some (.cells #[.int .i64 e.frm, .int .i64 e.boot, .int .i64 e.seq, .int .i64 e.ord, .int .i64 e.lev, .int .i64 e.stamp] 260 (0,0))):=hd_ fun w' hw=>by
  rw [Zao j1,← l0.out] at hw;exact hw
 go_enter Tryz.func194,Tryz.ntmps194
 go_wp2
 go_loopw [13,5] (fun i x wr=>∃ j A:Nat,j≤6∧i=.int .i64 j∧x=.int .i64 A∧A=((ns.take j).flatMap Z11).length∧wr.heap[nb]?=some (.cells (Zby 6 ns j) 260 (0,0))∧wr.heap[rb]?=some (boxZ 134)∧Below w.heap.size w wr) (fun i _ _=>6-(intOf i).toNat)
 case atStart=>
  refine⟨0,0,Nat.zero_le _,rfl,rfl,rfl,?_,s0.out ▸ Z4l _ (Z0a w _),((Below.refl _ _).alloc (Nat.le_refl _) _).alloc (by simp) _⟩
  have h2:=Z0a (w.alloc (boxZ 134)) (.cells (Zby 6 ns 0) 260)
  rw [World.size_alloc,← j0.out] at h2
  exact h2
 case round=>
  obtain⟨j,A,hj,rfl,rfl,hA,f0,c0,d0⟩:=hrel
  have hsz:=d0.size
  by_cases hlt:j<6
  ·have d1:j<ns.length:=by omega
   have y0:=r0.out _ (List.getElem_mem d1)
   have o0:((ns.take (j+1)).flatMap Z11).length=A+(Z11 ns[j]).length:=by rw [List.take_succ_eq_append_getElem d1,List.flatMap_append,List.length_append,← hA];simp
   have h0:=Zip ns ((Z11 e.data.size++e.data.data.toList)++rest) j d1
   rw [← k0.out,← hA] at h0
   have m0:=Zea j1 hlt
   have p0:=Z00 f0 j
   have k1:(Zby 6 ns j)[j]?=some (Value.int .i64 0):=by
    simp only [Zby,List.getElem?_toArray]
    rw [List.getElem?_append_right (by rw [List.length_map,List.length_take];omega),List.length_map,List.length_take,List.getElem?_replicate,if_pos (by omega)]
   rw [k1] at p0
   have m1:=Z03 f0 j
   have w0:=Z04 f0
   generalize ns[j]=y at y0 o0 h0 m0
   obtain⟨z,rfl⟩:=Int.eq_ofNat_of_zero_le y0.1
   have hz:=y0.2
   rw [Z3l] at h0 o0
   have c1:=Z2e (2*z)
   have b1:A+(Z4c (2*z)).length<n:=by
    have:=congrArg List.length h0
    rw [List.length_drop,List.length_append,hn.out] at this
    have h2:=congrArg List.length k0.out
    rw [hn.out] at h2
    have h3:((ns.take (j+1)).flatMap Z11).length≤(ns.flatMap Z11).length:=by
     have e0:(ns.take (j+1)++ns.drop (j+1)).flatMap Z11=(ns.take (j+1)).flatMap Z11++(ns.drop (j+1)).flatMap Z11:=List.flatMap_append
     rw [List.take_append_drop] at e0
     rw [e0,List.length_append];omega
    have h4:=(Z2e (2*e.data.size)).2
    rw [Z3l] at h2
    simp only [List.length_append] at h2
    omega
   have l1:¬ (h1=A):=by omega
   have z0:=hd_ ((Z6q h'.out A (by rw [hn.out];omega)).below d0)
   have b0:(wr.setCell ⟨nb,j,none⟩ (.int .i64 (z:Int))).heap[nb]?=some (.cells (Zby 6 ns (j+1)) 260 (0,0)):=by rw [Z0d f0,m0]
   have x0:=hd_ (Z0u (o:=j) (u:=.int .i64 (z:Int)) c0 n1)
   have u0:Below w.heap.size w (wr.setCell ⟨nb,j,none⟩ (.int .i64 (z:Int))):=d0.setCell (by show w.heap.size≤nb;have:=j0.out;omega) _
   generalize hV:Z4c (2*z)=V at o0 h0 c1 b1
   rw [j0.out] at p0 m1 w0
   generalize ((ns.drop (j+1)).flatMap Z11++((Z11 e.data.size++e.data.data.toList)++rest))=R at h0
   replace f0:=hd_ f0;replace d0:=hd_ d0;replace b0:=hd_ b0;replace u0:=hd_ u0;replace hV:=hd_ hV;replace o0:=hd_ o0;replace h0:=hd_ h0;replace c0:=hd_ c0;clear m0 hA k1;go_wp2_with fail
   refine (Z96 _ (l.drop A) R z _ z0.out (by rw [hV.out];exact h0.out) (by omega)).mono ?_
   rintro r w5 ⟨rfl,rfl⟩
   rw [hV.out]
   go_wp2
   rw [← j0.out]
   go_roundw
   case rel=>exact⟨j+1,A+V.length,by omega,by go_num,by go_num,o0.out.symm,b0.out,x0.out,u0.out⟩
   case measure=>simp [intOf];omega
  ·obtain rfl:j=6:=by omega
   rw [List.take_of_length_le (by omega)] at hA
   have b0:=v0.out _ f0
   have h0:l.drop A=Z4c (2*e.data.size)++(e.data.data.toList++rest):=by rw [k0.out,hA,List.drop_left,Z3l];simp
   have c1:=Z2e (2*e.data.size)
   have b1:A+((Z4c (2*e.data.size)).length+e.data.size)≤n:=by
    have:=congrArg List.length h0
    rw [List.length_drop,hn.out] at this
    simp only [List.length_append,Z17] at this
    have h2:=congrArg List.length k0.out
    rw [hn.out,Z3l] at h2
    simp only [List.length_append,Z17] at h2
    omega
   have l1:¬ (h1=A):=by omega
   have z0:=hd_ ((Z6q h'.out A (by rw [hn.out];omega)).below d0)
   have q0:=Z00 b0 0
   have q1:=Z00 b0 1
   have q2:=Z00 b0 2
   have q3:=Z00 b0 3
   have q4:=Z00 b0 4
   have q5:=Z00 b0 5
   simp only [List.getElem?_toArray,List.getElem?_cons_zero,List.getElem?_cons_succ] at q0 q1 q2 q3 q4 q5
   have w0:=Z04 b0
   rw [j0.out] at q0 q1 q2 q3 q4 q5 w0
   have hE:=o1.out
   rw [← hA] at hE
   generalize hV:Z4c (2*e.data.size)=V at h0 c1 b1 hE
   replace hV:=hd_ hV;replace h0:=hd_ h0;replace f0:=hd_ f0;replace b0:=hd_ b0;replace d0:=hd_ d0;replace hE:=hd_ hE;clear hA
   rw [s0.out] at c0
   have g0:=Z00 c0 0
   have g1:=Z00 c0 1
   have g2:=Z00 c0 2
   have g3:=Z00 c0 3
   have g4:=Z00 c0 4
   have g5:=Z00 c0 5
   have g6:=Z00 c0 6
   simp only [List.getElem?_toArray,List.getElem?_cons_zero,List.getElem?_cons_succ] at g0 g1 g2 g3 g4 g5 g6
   have t0:=Z03 c0 0
   have t1:=Z03 c0 1
   have t2:=Z03 c0 2
   have t3:=Z03 c0 3
   have t4:=Z03 c0 4
   have t5:=Z03 c0 5
   have t6:=Z03 c0 6
   have k0:=Z04 c0
   have i0:w.heap.size≤w.heap.size:=Nat.le_refl _
   have f1:∀ a0 a1 a2 a3 a4 a5 a6,Below w.heap.size w (((((((wr.setCell ⟨w.heap.size,0,none⟩ a0).setCell ⟨w.heap.size,1,none⟩ a1).setCell ⟨w.heap.size,2,none⟩ a2).setCell ⟨w.heap.size,3,none⟩ a3).setCell ⟨w.heap.size,4,none⟩ a4).setCell ⟨w.heap.size,5,none⟩ a5).setCell ⟨w.heap.size,6,none⟩ a6):=by
    intro a0 a1 a2 a3 a4 a5 a6
    exact ((((((d0.out.setCell i0 a0).setCell i0 a1).setCell i0 a2).setCell i0 a3).setCell i0 a4).setCell i0 a5).setCell i0 a6
   replace f1:=hd_ f1;clear i0 c0;go_wp2_with fail
   refine (Zab _ (l.drop A) rest e.data _ z0.out (by rw [hV.out];exact h0.out) (by omega)).mono ?_
   rintro r w5 ⟨rfl,rfl⟩
   rw [hV.out]
   go_wp2
   exact bodyPost_ret (v:=.tuple #[e.val, .int .i64 ((A:Int)+(V.length+e.data.size:Nat))]) (by simp [results,Tryz.results194,go_sem,g0,g1,g2,g3,g4,g5,g6]) rfl ⟨by rw [hE.out];rfl,f1.out _ _ _ _ _ _ _⟩
end
section
open Go.RowKit
theorem Ziq (w:World) (A B:Obj):((w.alloc A).alloc B).heap[w.heap.size+1]?=some B:=by
 have:=Z0a (w.alloc A) B
 rw [World.size_alloc] at this
 exact this
theorem Zeb (e:Ent):1≤(Z9p e).length:=by
 unfold Z9p
 rw [Z3l]
 have:=(Z2e (2*e.data.size)).2
 simp only [List.length_append];omega
theorem Zap (l:List Ent) (k:Nat) (h:k<l.length):(Z1g l).drop (Z1g (l.take k)).length=Z9p l[k]++Z1g (l.drop (k+1)):=by
 have e:l.take k++(l[k] :: l.drop (k+1))=l:=by rw [← List.drop_eq_getElem_cons h,List.take_append_drop]
 have e2:Z1g (l.take k++(l[k] :: l.drop (k+1)))=Z1g (l.take k)++(Z9p l[k]++Z1g (l.drop (k+1))):=by
  unfold Z1g;rw [List.flatMap_append,List.flatMap_cons]
 rw [e] at e2
 rw [e2,List.drop_left]
theorem Zft (l:List Ent) (k:Nat) (h:k<l.length):(Z1g (l.take k)).length+(Z9p l[k]).length≤(Z1g l).length:=by
 have h1:=congrArg List.length (Zap l k h)
 rw [List.length_drop,List.length_append] at h1
 have:=Zeb l[k]
 omega
theorem Zck (v:Value) (es:List Ent) (w:World) (h:rdB w v (Z1g es)) (hme:∀ e ∈ es,Z2l e=true) (h60:es.length≤60) :
  Calls Tryz.prog 159 #[v] w fun r w'=>∃ v',r=.returned (.tuple #[v', .int .i64 0])∧ownE w' w.heap.size 134 v' es∧Below w.heap.size w w':=by
 obtain⟨i0,hi,j1,b1,z0⟩:=info_parts Z8t
 replace hi:=hd_ hi
 have u0:=Z2v es fun e he=>Z1l (hme e he)
 have h':=hd_ h
 obtain⟨bs,j0⟩:∃ bs,Z1g es=bs:=⟨_,rfl⟩
 rw [j0] at h h' u0
 have hp:=h
 clear h
 obtain⟨a,y0,rfl,hm,hM,ha⟩:=hp
 unfold maxLen at hM
 obtain⟨n,hn⟩:∃ n,bs.length=n:=⟨_,rfl⟩
 rw [hn] at hm u0 h' ⊢
 have d1:Hid (0<n→∃ g off,a=some ⟨g,off,none⟩∧g<w.heap.size):=hd_ fun h0=>by
  obtain⟨g,off,e,hc⟩:=ha (by omega)
  exact⟨g,off,e,Z0f (hc 0 (by omega))⟩
 clear ha;replace hn:=hd_ hn;replace hme:=hd_ hme;replace j0:=hd_ j0
 have x0:=hd_ (fun v1 w1 (hr:rdE w1 v1 es)=>Z7d v1 es w1 hr hme.out h60)
 go_enter Tryz.func159,Tryz.ntmps159
 go_wp2
 go_loopw [4,5] (fun s x wr=>∃ k A:Nat,k≤es.length∧x=.int .i64 A∧A=(Z1g (es.take k)).length∧ownE wr w.heap.size 134 s (es.take k)∧Below w.heap.size w wr) (fun _ x _=>n-(intOf x).toNat)
 case atStart=>exact⟨0,0,Nat.zero_le _,rfl,rfl,World.ownsRow_nil _ _ _ _,Below.refl _ _⟩
 case round=>
  obtain⟨k,A,hk,rfl,hA,a0,b0⟩:=hrel
  have t0:=b0.size
  have e1:=hi.out
  by_cases hlt:k<es.length
  ·have m0:=Zeb es[k]
   have e0:=Zft es k hlt
   rw [j0.out,hn.out,← hA] at e0
   have d0:=Zap es k hlt
   rw [j0.out,← hA] at d0
   have l0:(Z1g (es.take (k+1))).length=A+(Z9p es[k]).length:=by rw [Z60 es k hlt,List.length_append,← hA]
   have o0:es.take (k+1)=es.take k++[es[k]]:=List.take_succ_eq_append_getElem hlt
   have v0:=hd_ (hme.out _ (List.getElem_mem hlt))
   have n0:(es.take k).length=k:=by rw [List.length_take];omega
   obtain⟨g,off,rfl,hg⟩:=d1.out (by omega)
   have h1:=hd_ ((Z6q h'.out A (by rw [hn.out];omega)).below b0)
   have hAc:¬ (y0=A):=by omega
   have hAn:A<n:=by omega
   have f1:(bs.drop A).length≤100000:=by rw [List.length_drop,hn.out];omega
   generalize es[k]=x at m0 e0 d0 l0 o0 v0
   unfold ownE at a0
   rw [n0] at a0
   generalize hE:(Z9p x).length=E at m0 e0 l0
   replace hE:=hd_ hE;replace l0:=hd_ l0;replace o0:=hd_ o0;replace d0:=hd_ d0;replace a0:=hd_ a0;replace b0:=hd_ b0;replace n0:=hd_ n0;clear hA;go_wp2_with fail
   refine (eOne_any x _ (bs.drop A) (Z1g (es.drop (k+1))) _ h1.out d0.out v0.out f1).mono ?_
   rintro r w2 ⟨rfl,f0⟩
   rw [hE.out]
   have c0:=hd_ (World.ownsRow.kept (row:=none) a0.out ⟨f0.os,f0.tape,f0.output,f0.size,fun k hk _=>f0.block k hk⟩ (by cases u4.ownBlock with | none=>exact .inl rfl | some k=>exact .inr (by simp)))
   have k0:=hd_ (b0.out.trans (f0.mono t0))
   have g1:=k0.out.size
   clear f0 a0 b0
   have hE0:((E:Int)==0)=false:=by simp;omega
   go_wp2_with (first
    | (at_builtin;refine Z15 rfl _ _ 35 rfl w.heap.size 134 i0 (Ent.val ⟨0,0,0,0,0,0,ByteArray.empty⟩) 7 64 Tryz.underlying35 e1 j1 b1 z0 rfl (by decide) _ k (Z3i (es.take k)) rfl (World.ownsRow.alloc (World.ownsRow.alloc c0.out _) _) (.slice (some ⟨w2.heap.size+1,0,none⟩) 1 1) 1 x.cells rfl ?c1 ?c2 ?c3 ?c4 ?c5 ?_))
   case c1=>exact Z9b (Ziq w2 _ _) rfl
   case c2=>
    intro u hu
    simp only [Ent.cells,List.mem_cons,List.not_mem_nil,or_false] at hu
    rcases hu with rfl | rfl | rfl | rfl | rfl | rfl | rfl<;>rfl
   case c3=>unfold maxLen;omega
   case c4=>omega
   case c5=>simp;omega
   intro v7 w7 g0 s0 _
   have p0:ownE w7 w.heap.size 134 v7 (es.take (k+1)):=by
    unfold ownE
    rw [o0.out,List.length_append,n0.out,Z39];exact g0
   have q0:Below w.heap.size w w7:=((k0.out.alloc g1 _).alloc (by simp;omega) _).grown s0 (by simp;omega) (fun k hk=>(c0.out.lt k hk).1)
   clear s0 g0;replace p0:=hd_ p0;replace q0:=hd_ q0;go_wp2
   go_roundw
   case rel=>exact⟨k+1,A+E,by omega,by go_num,l0.out.symm,p0.out,q0.out⟩
   case measure=>simp [intOf];omega
  ·obtain rfl:k=es.length:=by omega
   rw [List.take_length] at hA a0
   rw [j0.out,hn.out] at hA
   subst hA
   have w0:=hd_ a0.rd
   replace a0:=hd_ a0;replace b0:=hd_ b0;go_wp2_with fail
   refine (x0.out _ _ w0.out).mono ?_
   rintro r w2 ⟨v2,rfl,r0,f0⟩
   have c0:=hd_ (Z0z a0.out f0)
   have k0:=hd_ (b0.out.trans (f0.mono t0))
   rw [j0.out] at r0
   have a1:=hd_ r0.rd
   have i1:=hd_ (h'.out.below k0.out)
   clear r0 f0 a0 b0;go_wp2_with fail
   refine (Z4q _ _ bs _ a1.out i1.out).mono ?_
   rintro r w3 ⟨rfl,rfl⟩;go_wp2
   go_ret2
   exact⟨_,rfl,c0.out,k0.out⟩
end
section
open Go.RowKit
abbrev Zcl:Obj:=.cells #[.int .i64 0, .int .i64 0, .int .i64 0, .int .i64 0, .int .i64 0, .int .i64 0, .int .i64 0, .int .i64 0, .slice none 0 0, .int .i64 0, .int .i64 0, .int .i64 0, .bool false] 37
theorem eq_nilB (ad:Addr) (n c:Nat) (w:World):(Go.binOp .eql 103 (.slice (some ad) n c) (.slice none 0 0)).run Tryz.prog w=.ok (.bool false) w:=by
 obtain⟨d,hd⟩:∃ d,Op.maxDepth=d+1:=⟨Op.maxDepth-1,by decide⟩
 simp [Go.binOp,Op.equal,hd,Op.equalIn,run_underlying Tryz.underlying103]
theorem rdB_nil (w:World) (a:Option Addr) (c:Nat) (hc:c≤maxLen):rdB w (.slice a 0 c) []:=⟨a,c,rfl,Nat.zero_le _,hc,fun h=>by simp at h⟩
theorem rdB.isS {w:World} {v:Value} {l:List UInt8} (h:rdB w v l) (hl:0<l.length):∃ g off cap,v=.slice (some ⟨g,off,none⟩) l.length cap∧l.length≤cap∧cap≤maxLen∧g<w.heap.size:=by
 obtain⟨a,cap,rfl,hm,hM,ha⟩:=h
 obtain⟨g,off,rfl,hc⟩:=ha hl
 exact⟨g,off,cap,rfl,hm,hM,Z0f (hc 0 hl)⟩
theorem rdB.belowB {w w':World} {B:Nat} {v:Value} {l:List UInt8} (h:rdB w v l) (hb:Below B w w') (hB:∀ a,v.ownBlock=some a→a<B):rdB w' v l:=by
 obtain⟨a,a0,rfl,hm,hM,ha⟩:=h
 refine⟨a,a0,rfl,hm,hM,fun h0=>?_⟩
 obtain⟨b,off,rfl,hc⟩:=ha h0
 refine⟨b,off,rfl,fun j hj=>?_⟩
 rw [← hc j hj]
 exact hb.cell (hB b rfl)
theorem Zfu {w:World} {B B':Nat} {E:TypeId} {v:Value} {l:List Ent} (h:ownE w B E v l) (hB:B'≤B):ownE w B' E v l:=by
 obtain⟨h1,h2⟩:=h
 refine⟨h1,h2.imp id ?_⟩
 rintro⟨g,cap,cur,e1,e2,e3⟩
 exact⟨g,cap,cur,e1,Nat.le_trans hB e2,e3⟩
theorem Zfv (v:Value) (m:Ms) (w:World) (h:rdB w v (Z4w m)) (hm:MayM m) :
  Calls Tryz.prog 114 #[v] w fun r w'=>∃ sa sc,r=.returned (.tuple #[Z0w m (.slice sa m.ents.length sc), .int .i64 0])∧ownE w' w.heap.size 134 (.slice sa m.ents.length sc) m.ents∧Below w.heap.size w w':=by
 have u3:=Z2v m.ents (Z59 hm)
 have s3:=hm.e1
 have k1:=hd_ (Z9a hm)
 obtain⟨ns,d1⟩:∃ ns,Z95 m=ns:=⟨_,rfl⟩
 have r2:ns.length=13:=by rw [← d1];rfl
 rw [d1] at k1
 obtain⟨eb,o1⟩:∃ eb,Z1g m.ents=eb:=⟨_,rfl⟩
 have hT:Hid (Z4w m=Z3t (ns.flatMap Z11++eb)):=hd_ (by unfold Z4w;rw [d1,o1])
 have hr:=h
 rw [hT.out] at hr
 have y3:(ns.flatMap Z11++eb).length≤90000:=by
  have:=Z14 ns
  rw [o1] at u3
  rw [List.length_append];omega
 have HO:=hd_ (fun w1 (hb:Below w.heap.size w w1)=>cOpen_ok v (ns.flatMap Z11++eb) w1 (hr.below hb) y3)
 have h':=hd_ h
 have HD:=hd_ (fun v1 w1 (hr:rdB w1 v1 eb)=>Zck v1 m.ents w1 (o1 ▸ hr) hm.e2 hm.e1)
 have HE:=hd_ (fun s w1 (hr:rdE w1 s m.ents)=>Z7e m s w1 hm hr)
 have s2:=h.isS (by rw [hT.out,Z2r];omega)
 obtain⟨x0,l0⟩:∃ L,Z4w m=L:=⟨_,rfl⟩
 rw [l0] at h' HE s2
 have b1:0<x0.length:=by rw [← l0,hT.out,Z2r];omega
 obtain⟨k,f,t,b,vi,l,me,po,es,co,nu,cl,y⟩:=m
 clear h hr hm hT o1 l0
 dsimp only at *
 obtain⟨bg,m3,o3,rfl,hbm,x3,hbg⟩:=s2
 unfold maxLen at x3
 obtain⟨yi,m2⟩:∃ yi:Int,(if y=true then (1:Int) else 0)=yi:=⟨_,rfl⟩
 have hyb:(yi==1)=y:=by rw [← m2];cases y<;>rfl
 have v0:(ns.map (Value.int .i64)).toArray=#[Value.int .i64 k, .int .i64 f, .int .i64 t, .int .i64 b, .int .i64 vi, .int .i64 l, .int .i64 me, .int .i64 po, .int .i64 co, .int .i64 nu, .int .i64 cl, .int .i64 yi, .int .i64 es.length]:=by rw [← m2,← d1];rfl
 clear d1 m2;replace v0:=hd_ v0
 have HB:=hd_ ((Below.refl w.heap.size w).alloc (Nat.le_refl _) Zcl)
 have c1:=hd_ (Z0a w Zcl)
 go_enter Tryz.func114,Tryz.ntmps114
 go_wp2_with fail
 refine (HO.out _ HB.out).mono ?_
 rintro r w1 ⟨v1,rfl,c2,f2⟩
 have w0:=hd_ (Z02 c1.out f2)
 have u2:=hd_ (HB.out.trans (f2.mono HB.out.size))
 have j3:=u2.out.size
 have i2:=hd_ c2.rd
 have l3:=Z04 w0.out
 obtain⟨nb,m0⟩:∃ nb,nb=w1.heap.size:=⟨_,rfl⟩
 have h2:Hid (∀ k,v1.ownBlock=some k→k<nb):=hd_ fun k hk=>m0 ▸ (c2.lt k hk).2
 clear c2 f2 HB c1;replace m0:=hd_ m0
 obtain⟨rb,j1⟩:∃ rb,rb=w.heap.size:=⟨_,rfl⟩
 have i3:rb≠nb:=by have:=m0.out;omega
 rw [← j1] at w0
 replace j1:=hd_ j1;go_wp2
 go_loopw [23,4] (fun i x wr=>∃ j:Nat,j≤13∧i=.int .i64 j∧rdB wr x ((ns.drop j).flatMap Z11++eb)∧(∀ k,x.ownBlock=some k→k<nb)∧wr.heap[nb]?=some (.cells (Zby 13 ns j) 213 (0,0))∧wr.heap[rb]?=some Zcl∧Below w.heap.size w wr) (fun i _ _=>13-(intOf i).toNat)
 case atStart=>
  refine⟨0,Nat.zero_le _,rfl,(i2.out.below ((Below.refl _ _).alloc (Nat.le_refl _) _)),h2.out,?_,Z4l _ w0.out,u2.out.alloc j3 _⟩
  rw [m0.out]
  exact Z0a w1 (.cells (Zby 13 ns 0) 213)
 case round=>
  obtain⟨j,hj,rfl,r0,x1,e0,h0,f0⟩:=hrel
  have o2:=f0.size
  by_cases hlt:j<13
  ·have f1:j<ns.length:=by omega
   have j2:=k1.out _ (List.getElem_mem f1)
   have m1:(ns.drop j).flatMap Z11++eb=Z11 ns[j]++((ns.drop (j+1)).flatMap Z11++eb):=by
    rw [List.drop_eq_getElem_cons f1,List.flatMap_cons,List.append_assoc]
   have y0:=Zea r2 hlt
   have h1:=Z00 e0 j
   have y2:(Zby 13 ns j)[j]?=some (Value.int .i64 0):=by
    simp only [Zby,List.getElem?_toArray]
    rw [List.getElem?_append_right (by rw [List.length_map,List.length_take];omega),List.length_map,List.length_take,List.getElem?_replicate,if_pos (by omega)]
   rw [y2] at h1
   have e3:=Z03 e0 j
   have z1:=Z04 e0
   generalize ns[j]=x at j2 m1 y0
   obtain⟨z,rfl⟩:=Int.eq_ofNat_of_zero_le j2.1
   have hz:=j2.2
   rw [Z3l] at m1
   have hvl:=Z2e (2*z)
   rw [m1] at r0
   obtain⟨R,hR⟩:∃ R,(ns.drop (j+1)).flatMap Z11++eb=R:=⟨_,rfl⟩
   rw [hR] at r0
   replace hR:=hd_ hR
   have s0:=r0
   obtain⟨g,off,c3,rfl,hm1,k3,hg1⟩:=r0.isS (by rw [List.length_append];omega)
   unfold maxLen at k3
   have r1:=Z6q s0 (Z4c (2*z)).length (by rw [List.length_append];omega)
   rw [List.drop_left] at r1
   have k0:(wr.setCell ⟨nb,j,none⟩ (.int .i64 (z:Int))).heap[nb]?=some (.cells (Zby 13 ns (j+1)) 213 (0,0)):=by rw [Z0d e0,y0]
   have i1:=hd_ (Z0u (o:=j) (u:=.int .i64 (z:Int)) h0 i3)
   have l1:Below w.heap.size w (wr.setCell ⟨nb,j,none⟩ (.int .i64 (z:Int))):=f0.setCell (by show w.heap.size≤nb;have:=m0.out;omega) _
   have hgn:g<nb:=x1 g rfl
   have d2:=hd_ (r1.belowB ((Below.refl nb wr).setCell (p:=⟨nb,j,none⟩) (Nat.le_refl _) (.int .i64 (z:Int))) (fun a ha=>by have e:some g=some a:=ha;injection e with e;omega))
   clear x1
   rw [List.length_append] at *
   generalize hV:Z4c (2*z)=V at *
   rw [m0.out] at h1 e3 z1
   replace hV:=hd_ hV;replace r0:=hd_ r0;replace s0:=hd_ s0;replace r1:=hd_ r1;replace e0:=hd_ e0;replace h0:=hd_ h0;replace f0:=hd_ f0;replace k0:=hd_ k0;replace l1:=hd_ l1;clear y0 y2 m1;go_wp2_with fail
   refine (Z96 _ (V++R) R z _ s0.out (by rw [hV.out]) (by omega)).mono ?_
   rintro r w5 ⟨rfl,rfl⟩
   rw [hV.out]
   by_cases hcV:c3=V.length
   ·have z2:R=[]:=List.length_eq_zero_iff.1 (by omega)
    subst z2;go_wp2
    rw [← m0.out]
    go_roundw
    case rel=>exact⟨j+1,by omega,by go_num,by rw [hR.out];exact rdB_nil _ _ _ (Nat.zero_le _),fun k hk=>(by have e:some g=some k:=hk;injection e with e;omega),k0.out,i1.out,l1.out⟩
    case measure=>simp [intOf];omega
   ·go_wp2
    rw [← m0.out]
    go_roundw
    case rel=>
     refine⟨j+1,by omega,by go_num,?_,fun k hk=>(by have e:some g=some k:=hk;injection e with e;omega),k0.out,i1.out,l1.out⟩
     rw [hR.out]
     have:=d2.out
     rw [Nat.add_sub_cancel_left] at this
     exact this
    case measure=>simp [intOf];omega
  ·obtain rfl:j=13:=by omega
   rw [List.drop_eq_nil_of_le (by omega)] at r0
   have z0:=hd_ (show rdB wr u4 eb from r0)
   rw [Zao r2,v0.out] at e0
   replace e0:=hd_ e0;replace h0:=hd_ h0;replace f0:=hd_ f0;clear x1 r0;go_wp2_with fail
   refine (HD.out _ _ z0.out).mono ?_
   rintro r w5 ⟨v5,rfl,k2,n1⟩
   have b0:=Z02 h0.out n1
   have d0:=Z02 e0.out n1
   have w2:=hd_ (f0.out.trans (n1.mono o2))
   have r3:=w2.out.size
   have n0:=Zfu k2 o2
   have u0:=n0.rd
   obtain⟨sa,sc,rfl⟩:=u0.len
   have n3:Hid (∀ k,(Value.slice sa es.length sc).ownBlock=some k→w.heap.size<k):=hd_ fun k hk=>by
    have:=(k2.lt k hk).1
    have:=Z04 h0.out
    have:=j1.out
    omega
   have u0:=hd_ u0
   replace n0:=hd_ n0
   rw [j1.out] at b0
   rw [m0.out] at d0
   have q0:=Z00 d0 0
   have q1:=Z00 d0 1
   have q2:=Z00 d0 2
   have q3:=Z00 d0 3
   have q4:=Z00 d0 4
   have q5:=Z00 d0 5
   have q6:=Z00 d0 6
   have q7:=Z00 d0 7
   have q8:=Z00 d0 8
   have q9:=Z00 d0 9
   have d3:=Z00 d0 10
   have h3:=Z00 d0 11
   have v3:=Z00 d0 12
   simp only [List.getElem?_toArray,List.getElem?_cons_zero,List.getElem?_cons_succ] at q0 q1 q2 q3 q4 q5 q6 q7 q8 q9 d3 h3 v3
   have g0:=Z00 b0 0
   have g1:=Z00 b0 1
   have g2:=Z00 b0 2
   have g3:=Z00 b0 3
   have g4:=Z00 b0 4
   have g5:=Z00 b0 5
   have g6:=Z00 b0 6
   have g7:=Z00 b0 7
   have g8:=Z00 b0 8
   have g9:=Z00 b0 9
   have g10:=Z00 b0 10
   have g11:=Z00 b0 11
   have g12:=Z00 b0 12
   simp only [List.getElem?_toArray,List.getElem?_cons_zero,List.getElem?_cons_succ] at g0 g1 g2 g3 g4 g5 g6 g7 g8 g9 g10 g11 g12
   have t0:=Z03 b0 0
   have t1:=Z03 b0 1
   have t2:=Z03 b0 2
   have t3:=Z03 b0 3
   have t4:=Z03 b0 4
   have t5:=Z03 b0 5
   have t6:=Z03 b0 6
   have t7:=Z03 b0 7
   have t8:=Z03 b0 8
   have t9:=Z03 b0 9
   have t10:=Z03 b0 10
   have t11:=Z03 b0 11
   have t12:=Z03 b0 12
   have hl5:=Z04 d0
   clear k2 n1 e0 h0 f0 z0;replace b0:=hd_ b0;replace d0:=hd_ d0
   have x2:=hd_ (Z0a w5 (.cells #[.int .i64 k, .int .i64 f, .int .i64 t, .int .i64 b, .int .i64 vi, .int .i64 l, .int .i64 me, .int .i64 po, .slice sa es.length sc, .int .i64 co, .int .i64 nu, .int .i64 cl, .bool y] 37))
   go_wp2_with fail
   refine (HE.out _ _ (u0.out.grow ((Below.refl _ _).alloc (Nat.le_refl _) _))).mono ?_
   rintro r w7 ⟨v7,rfl,b2,l2⟩
   have o0:Below w5.heap.size w5 w7:=(((Below.refl _ _).alloc (Nat.le_refl _) _).trans (l2.mono (by simp)))
   have c0:=Z02 b0.out o0
   have i0:=Z02 x2.out l2
   have v2:=hd_ (w2.out.trans (o0.mono r3))
   have u1:=hd_ (Z0z n0.out o0)
   have b3:=hd_ b2.rd
   have y1:=hd_ (h'.out.below v2.out)
   obtain⟨f3,off7,s1,rfl,_,_,_⟩:=b2.rd.isS b1
   have p0:=Z00 i0 0
   have p1:=Z00 i0 1
   have p2:=Z00 i0 2
   have p3:=Z00 i0 3
   have p4:=Z00 i0 4
   have p5:=Z00 i0 5
   have p6:=Z00 i0 6
   have p7:=Z00 i0 7
   have p8:=Z00 i0 8
   have p9:=Z00 i0 9
   have p10:=Z00 i0 10
   have p11:=Z00 i0 11
   have p12:=Z00 i0 12
   simp only [List.getElem?_toArray,List.getElem?_cons_zero,List.getElem?_cons_succ] at p0 p1 p2 p3 p4 p5 p6 p7 p8 p9 p10 p11 p12
   have g0:=Z00 c0 0
   have g1:=Z00 c0 1
   have g2:=Z00 c0 2
   have g3:=Z00 c0 3
   have g4:=Z00 c0 4
   have g5:=Z00 c0 5
   have g6:=Z00 c0 6
   have g7:=Z00 c0 7
   have g8:=Z00 c0 8
   have g9:=Z00 c0 9
   have g10:=Z00 c0 10
   have g11:=Z00 c0 11
   have g12:=Z00 c0 12
   simp only [List.getElem?_toArray,List.getElem?_cons_zero,List.getElem?_cons_succ] at g0 g1 g2 g3 g4 g5 g6 g7 g8 g9 g10 g11 g12
   have t0:=Z03 c0 0
   have t1:=Z03 c0 1
   have t2:=Z03 c0 2
   have t3:=Z03 c0 3
   have t4:=Z03 c0 4
   have t5:=Z03 c0 5
   have t6:=Z03 c0 6
   have t7:=Z03 c0 7
   have t8:=Z03 c0 8
   have t9:=Z03 c0 9
   have t10:=Z03 c0 10
   have t11:=Z03 c0 11
   have t12:=Z03 c0 12
   have hl2:=Z04 c0
   have hl7:=Z04 i0
   have j0:w.heap.size≤w.heap.size:=Nat.le_refl _
   have w3:∀ a0 a1 a2 a3 a4 a5 a6 a7 a8 a9 a10 a11 a12,Below w.heap.size w (((((((((((((w7.setCell ⟨w.heap.size,0,none⟩ a0).setCell ⟨w.heap.size,1,none⟩ a1).setCell ⟨w.heap.size,2,none⟩ a2).setCell ⟨w.heap.size,3,none⟩ a3).setCell ⟨w.heap.size,4,none⟩ a4).setCell ⟨w.heap.size,5,none⟩ a5).setCell ⟨w.heap.size,6,none⟩ a6).setCell ⟨w.heap.size,7,none⟩ a7).setCell ⟨w.heap.size,8,none⟩ a8).setCell ⟨w.heap.size,9,none⟩ a9).setCell ⟨w.heap.size,10,none⟩ a10).setCell ⟨w.heap.size,11,none⟩ a11).setCell ⟨w.heap.size,12,none⟩ a12):=by
    intro a0 a1 a2 a3 a4 a5 a6 a7 a8 a9 a10 a11 a12
    exact (((((((((((((v2.out.setCell j0 a0).setCell j0 a1).setCell j0 a2).setCell j0 a3).setCell j0 a4).setCell j0 a5).setCell j0 a6).setCell j0 a7).setCell j0 a8).setCell j0 a9).setCell j0 a10).setCell j0 a11).setCell j0 a12)
   have n2:∀ a0 a1 a2 a3 a4 a5 a6 a7 a8 a9 a10 a11 a12,ownE (((((((((((((w7.setCell ⟨w.heap.size,0,none⟩ a0).setCell ⟨w.heap.size,1,none⟩ a1).setCell ⟨w.heap.size,2,none⟩ a2).setCell ⟨w.heap.size,3,none⟩ a3).setCell ⟨w.heap.size,4,none⟩ a4).setCell ⟨w.heap.size,5,none⟩ a5).setCell ⟨w.heap.size,6,none⟩ a6).setCell ⟨w.heap.size,7,none⟩ a7).setCell ⟨w.heap.size,8,none⟩ a8).setCell ⟨w.heap.size,9,none⟩ a9).setCell ⟨w.heap.size,10,none⟩ a10).setCell ⟨w.heap.size,11,none⟩ a11).setCell ⟨w.heap.size,12,none⟩ a12) w.heap.size 134 (.slice sa es.length sc) es:=by
    intro a0 a1 a2 a3 a4 a5 a6 a7 a8 a9 a10 a11 a12
    have hc:Chg (fun k=>k=w.heap.size) w7 (((((((((((((w7.setCell ⟨w.heap.size,0,none⟩ a0).setCell ⟨w.heap.size,1,none⟩ a1).setCell ⟨w.heap.size,2,none⟩ a2).setCell ⟨w.heap.size,3,none⟩ a3).setCell ⟨w.heap.size,4,none⟩ a4).setCell ⟨w.heap.size,5,none⟩ a5).setCell ⟨w.heap.size,6,none⟩ a6).setCell ⟨w.heap.size,7,none⟩ a7).setCell ⟨w.heap.size,8,none⟩ a8).setCell ⟨w.heap.size,9,none⟩ a9).setCell ⟨w.heap.size,10,none⟩ a10).setCell ⟨w.heap.size,11,none⟩ a11).setCell ⟨w.heap.size,12,none⟩ a12):=(Z06 (Z06 (Z06 (Z06 (Z06 (Z06 (Z06 (Z06 (Z06 (Z06 (Z06 (Z06 (Z06 (Chg.refl _ _) rfl) rfl) rfl) rfl) rfl) rfl) rfl) rfl) rfl) rfl) rfl) rfl) rfl)
    refine u1.out.chg hc fun k hk e=>?_
    have:=n3.out k hk
    omega
   have z3:=eq_nilB ⟨f3,off7,none⟩ x0.length s1
   replace n2:=hd_ n2;clear j0 c0 i0 l2 b2 o0 b0 d0 x2;go_wp2_with fail
   refine (Z4q _ _ x0 _ b3.out y1.out).mono ?_
   rintro r w8 ⟨rfl,rfl⟩;go_wp2
   exact bodyPost_ret (v:=.tuple #[Z0w ⟨k,f,t,b,vi,l,me,po,es,co,nu,cl,y⟩ (.slice sa es.length sc), .int .i64 0]) (by simp [results,Tryz.results114,go_sem,g0,g1,g2,g3,g4,g5,g6,g7,g8,g9,g10,g11,g12]) rfl ⟨sa,sc,rfl,n2.out _ _ _ _ _ _ _ _ _ _ _ _ _ ,w3 _ _ _ _ _ _ _ _ _ _ _ _ _ ⟩
end
end Go.Proofs.YtbonjbokofkafaaGreat
