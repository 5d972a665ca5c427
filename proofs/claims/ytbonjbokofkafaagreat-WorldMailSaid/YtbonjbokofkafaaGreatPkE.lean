/- Lemmas of the proof: PkE. -/
import Derived.Test.YtbonjbokofkafaaGreatPkD
import Derived.Test.YtbonjbokofkafaaGreatPkB
import Derived.Deep.RegionLaw
import Derived.Deep.AppendLies
import Derived.Laws.Bits64b
import Derived.Laws.BytesArg
import Derived.Test.YtbonjbokofkafaaGreatPkA
namespace Go.Proofs.YtbonjbokofkafaaGreat
set_option linter.unusedVariables false
set_option maxRecDepth 100000
set_option maxHeartbeats 64000000
section
open Go.RowKit
def Z36:Nat→Nat→List UInt8
 | 0,u=>[UInt8.ofNat u]
 | f+1,u=>if u<128 then [UInt8.ofNat u] else UInt8.ofNat (u % 128+128) :: Z36 f (u / 128)
def Z4c (u:Nat):List UInt8:=Z36 9 u
theorem Z25 {f u:Nat} (h:u<128):Z36 f u=[UInt8.ofNat u]:=by
 cases f with
 | zero=>rfl
 | succ f=>unfold Z36;rw [if_pos h]
theorem Z3w {f u:Nat} (h:¬ u<128):Z36 (f+1) u=UInt8.ofNat (u % 128+128) :: Z36 f (u / 128):=by
 rw [Z36,if_neg h]
theorem Z76:∀ f u,(Z36 f u).length≤f+1∧1≤(Z36 f u).length
 | 0,u=>by simp [Z36]
 | f+1,u=>by
   by_cases h:u<128
   ·rw [Z25 h];simp
   ·rw [Z3w h]
    have:=Z76 f (u / 128)
    simp
    omega
theorem Z2e (u:Nat):(Z4c u).length≤10∧1≤(Z4c u).length:=Z76 9 u
theorem or_128 (x:Nat) (h:x<256):x ||| 128=x % 128+128:=by
 have key:∀ y,y<256→y ||| 128=y % 128+128:=by decide +kernel
 exact key x h
theorem and_127 (x:Nat) (h:x<256):x &&& 127=x % 128:=by
 have key:∀ y,y<256→y &&& 127=y % 128:=by decide +kernel
 exact key x h
def Z4p (c:Nat):List UInt8:=[UInt8.ofNat (c / 16777216),UInt8.ofNat (c / 65536),UInt8.ofNat (c / 256),UInt8.ofNat c]
def Z3t (b:List UInt8):List UInt8:=b++Z4p (Ze0 b)
theorem Z2r (b:List UInt8):(Z3t b).length=b.length+4:=by unfold Z3t;rw [List.length_append];rfl
def Z11 (n:Int):List UInt8:=Z4c (2*n.toNat)
def Z93 (e:Ent):List Int:=[e.frm,e.boot,e.seq,e.ord,e.lev,e.stamp]
def Z9p (e:Ent):List UInt8:=(Z93 e).flatMap Z11++(Z11 e.data.size++e.data.data.toList)
def Z1g (l:List Ent):List UInt8:=l.flatMap Z9p
structure Ms where
 kind:Int
 frm:Int
 too:Int
 boot:Int
 view:Int
 last:Int
 mem:Int
 pos:Int
 ents:List Ent
 com:Int
 num:Int
 clock:Int
 yes:Bool
abbrev Z94 (m:Ms) (s:Value):List Value:=[.int .i64 m.kind, .int .i64 m.frm, .int .i64 m.too, .int .i64 m.boot, .int .i64 m.view, .int .i64 m.last, .int .i64 m.mem, .int .i64 m.pos,s, .int .i64 m.com, .int .i64 m.num, .int .i64 m.clock, .bool m.yes]
abbrev Z0w (m:Ms) (s:Value):Value:=.agg #[.int .i64 m.kind, .int .i64 m.frm, .int .i64 m.too, .int .i64 m.boot, .int .i64 m.view, .int .i64 m.last, .int .i64 m.mem, .int .i64 m.pos,s, .int .i64 m.com, .int .i64 m.num, .int .i64 m.clock, .bool m.yes]
def Z95 (m:Ms):List Int:=[m.kind,m.frm,m.too,m.boot,m.view,m.last,m.mem,m.pos,m.com,m.num,m.clock,if m.yes then 1 else 0,m.ents.length]
def Z4w (m:Ms):List UInt8:=Z3t ((Z95 m).flatMap Z11++Z1g m.ents)
end
section
open Go.RowKit
theorem Zhy (v:Value) (l:List UInt8) (base n:Nat) (w:World) (h:ownB w base v l) (hb:base≤w.heap.size) (hl:l.length≤100000) (hn:n≤1099511627776) :
  Calls Tryz.prog 198 #[v, .int .i64 (n:Int)] w fun r w'=>∃ v',r=.returned v'∧ownB w' base v' (l++Z4c (2*n))∧Below base w w':=by
 obtain⟨i0,hi,n0,k0,j0⟩:=info_parts Z1p
 replace hi:=hd_ hi
 obtain⟨T,hT⟩:∃ T,l++Z4c (2*n)=T:=⟨_,rfl⟩
 rw [hT]
 replace hT:=hd_ hT;replace h:=hd_ h
 go_enter Tryz.func198,Tryz.ntmps198
 go_wp2
 go_loopw [0,5] (fun s x wr=>∃ (A:List UInt8) (f u:Nat),f≤9∧A.length+f=l.length+9∧x=.int .u64 (u:Int)∧u<128 ^ (f+1)∧u≤2199023255552∧A++Z36 f u=T∧ownB wr base s A∧Below base w wr) (fun _ x _=>(intOf x).toNat)
 case atStart=>exact⟨l,9,2*n,Nat.le_refl _,rfl,by congr 1;omega,by omega,by omega,hT.out,h.out,Below.refl _ _⟩
 case round=>
  obtain⟨A,f,u,hf,hAl,rfl,hu,hu2,hA,b0,c0⟩:=hrel
  have hsz:=c0.size
  have l0:=hi.out
  unfold ownB at b0
  replace b0:=hd_ b0;replace c0:=hd_ c0;replace hA:=hd_ hA;replace hu:=hd_ hu
  by_cases hbig:u<128
  ·have o0:¬ (u:Int) > 127:=by omega
   go_wp2_with (first
    | (at_builtin;refine wpList_append_own _ rfl _ _ 103 rfl base 5 i0 (.int .u8 0) 1 1 Tryz.underlying103 l0 n0 k0 j0 rfl (by decide) _ _ _ rfl (World.ownsRow.alloc b0.out _) ⟨_,0,none⟩ 1 1 [.int .u8 (u:Int)] rfl rfl ?c1 ?c2 ?c3 ?c4 ?c5 ?_))
   case c2=>rfl
   case c3=>unfold maxLen;omega
   case c4=>omega
   case c5=>omega
   intro v7 w7 a0 g0 _
   have f0:T=A++[UInt8.ofNat u]:=by rw [← hA.out,Z25 hbig]
   have d0:ownB w7 base v7 T:=by
    rw [f0]
    unfold ownB
    rw [List.length_append,Z0t]
    have:Z0q [UInt8.ofNat u]=[.int .u8 (u:Int)]:=by unfold Z0q;simp;omega
    rw [this];exact a0
   have e0:Below base w w7:=c0.out.trans (((Below.refl base wr).alloc (by omega) _).grown g0 (by simp;omega) (fun k hk=>(b0.out.lt k hk).1))
   clear g0 a0 f0;replace d0:=hd_ d0;replace e0:=hd_ e0;go_wp2
   go_ret
   exact⟨v7,rfl,d0.out,e0.out⟩
  ·have o0:(u:Int) > 127:=by omega
   go_wp2_with (first
    | (at_builtin;refine wpList_append_own _ rfl _ _ 103 rfl base 5 i0 (.int .u8 0) 1 1 Tryz.underlying103 l0 n0 k0 j0 rfl (by decide) _ _ _ rfl (World.ownsRow.alloc b0.out _) ⟨_,0,none⟩ 1 1 [.int .u8 (bits .or .u8 ((u:Int) % 256) 128)] rfl rfl ?d1 ?d2 ?d3 ?d4 ?d5 ?_))
   case d1=>exact World.news_of_block (cs:=#[.int .u8 (bits .or .u8 ((u:Int) % 256) 128)]) (t:=5) (fr:=(0,0)) (heap_alloc_new wr _)
   case d2=>intro x hx;simp at hx;subst hx;rfl
   case d3=>unfold maxLen;omega
   case d4=>omega
   case d5=>simp;omega
   intro v7 w7 a0 g0 _
   obtain⟨f',rfl⟩:∃ f',f=f'+1:=by
    cases f with
    | zero=>exact absurd (by simpa using hu.out) hbig
    | succ f'=>exact⟨f',rfl⟩
   have m0:bits .or .u8 ((u:Int) % 256) 128=((UInt8.ofNat (u % 128+128)).toNat:Int):=by
    rw [show (u:Int) % 256=((u % 256:Nat):Int) by omega,show (128:Int)=((128:Nat):Int) from rfl,u8_or_nat _ _ (by omega) (by omega),or_128 _ (by omega),UInt8.toNat_ofNat']
    omega
   have f0:(A++[UInt8.ofNat (u % 128+128)])++Z36 f' (u / 128)=T:=by rw [← hA.out,Z3w hbig];simp
   have h0:u / 128<128 ^ (f'+1):=Nat.div_lt_of_lt_mul (by rw [Nat.mul_comm,← Nat.pow_succ];exact hu.out)
   have d0:ownB w7 base v7 (A++[UInt8.ofNat (u % 128+128)]):=by
    unfold ownB
    rw [List.length_append,Z0t]
    have:Z0q [UInt8.ofNat (u % 128+128)]=[.int .u8 (bits .or .u8 ((u:Int) % 256) 128)]:=by rw [m0];rfl
    rw [this];exact a0
   have e0:Below base w w7:=c0.out.trans (((Below.refl base wr).alloc (by omega) _).grown g0 (by simp;omega) (fun k hk=>(b0.out.lt k hk).1))
   clear g0 a0 m0;replace d0:=hd_ d0;replace e0:=hd_ e0;replace f0:=hd_ f0;replace h0:=hd_ h0;go_wp2
   go_roundw
   case rel=>exact⟨A++[UInt8.ofNat (u % 128+128)],f',u / 128,by omega,by simp;omega,by congr 1,h0.out,by omega,f0.out,d0.out,e0.out⟩
   case measure=>simp [intOf];omega
end
section
open Go.RowKit
theorem vint_at {l rest:List UInt8} {f u i:Nat} (h:l.drop i=Z36 f u++rest):∃ hl:i<l.length,(u<128→l[i]=UInt8.ofNat u∧l.drop (i+1)=rest)∧(¬ u<128→∀ f',f=f'+1→l[i]=UInt8.ofNat (u % 128+128)∧l.drop (i+1)=Z36 f' (u / 128)++rest):=by
 have a0:i<l.length:=by
  rcases Nat.lt_or_ge i l.length with h1 | h1
  ·exact h1
  ·rw [List.drop_of_length_le h1] at h
   have:=congrArg List.length h
   rw [List.length_append] at this
   have:=(Z76 f u).2
   simp at *
   omega
 refine⟨a0,fun hs=>?_,fun hb f' hf=>?_⟩
 ·rw [Z25 hs,List.drop_eq_getElem_cons a0] at h
  simp only [List.cons_append,List.nil_append,List.cons.injEq] at h
  exact h
 ·subst hf
  rw [Z3w hb,List.drop_eq_getElem_cons a0] at h
  simp only [List.cons_append,List.cons.injEq] at h
  exact h
theorem orX (acc b i:Nat) (hacc:acc<128 ^ i) (hb:b<256) (hi:i≤8) :
  bits .or .u64 (acc:Int) (IntKind.u64.wrap (IntKind.u64.wrap (bits .and .u8 (b:Int) 127)*2 ^ (7*i)))=((acc+(b % 128)*128 ^ i:Nat):Int):=by
 have hp:128 ^ i≤128 ^ 8:=Nat.pow_le_pow_right (by omega) hi
 have hm:(b % 128)*128 ^ i≤127*128 ^ i:=Nat.mul_le_mul_right _ (by omega)
 have e1:bits .and .u8 (b:Int) 127=((b % 128:Nat):Int):=by
  rw [show (127:Int)=((127:Nat):Int) from rfl,u8_and_nat _ _ hb (by omega),and_127 b hb]
 have wr:∀ x:Nat,x<18446744073709551616→IntKind.u64.wrap (x:Int)=(x:Int):=fun x hx=>by
  simp [IntKind.wrap,IntKind.bits,IntKind.signed]
  omega
 rw [e1,wr _ (by omega)]
 have e2:((b % 128:Nat):Int)*2 ^ (7*i)=(((b % 128)*128 ^ i:Nat):Int):=by
  rw [Int.natCast_mul,Int.natCast_pow,Int.pow_mul]
  rfl
 rw [e2,wr _ (by omega),bits_or_u64_nat _ _ (by omega) (by omega)]
 congr 1
 have a0:128 ^ i=2 ^ (7*i):=by rw [Nat.pow_mul]
 rw [a0] at hacc ⊢
 have:=Nat.two_pow_add_eq_or_of_lt hacc (b % 128)
 rw [Nat.or_comm,Nat.mul_comm (b % 128),← this]
 omega
theorem Z96 (v:Value) (l rest:List UInt8) (n:Nat) (w:World) (h:rdB w v l) (hl:l=Z4c (2*n)++rest) (hn:n≤1099511627776) :
  Calls Tryz.prog 158 #[v] w fun r w'=>r=.returned (.tuple #[.int .i64 (n:Int), .int .i64 ((Z4c (2*n)).length:Int), .int .i64 0])∧w=w':=by
 obtain⟨a,cap,rfl,hm,hM,ha⟩:=h
 unfold maxLen at hM
 replace ha:=hd_ ha
 obtain⟨N,hN⟩:∃ N,(Z4c (2*n)).length=N:=⟨_,rfl⟩
 rw [hN]
 have n0:Hid (l.length=N+rest.length):=hd_ (by rw [hl,List.length_append,hN])
 have h0:l.drop 0=Z36 9 (2*n)++rest:=hl
 replace hl:=hd_ hl;replace h0:=hd_ h0;replace hN:=hd_ hN
 go_enter Tryz.func158,Tryz.ntmps158
 go_wp2
 go_loop [5,11] (fun x j=>∃ (i f u acc:Nat),i+f=9∧j=.int .i64 (i:Int)∧x=.int .u64 (acc:Int)∧l.drop i=Z36 f u++rest∧acc+u*128 ^ i=2*n∧acc<128 ^ i∧(i=0∨1≤u)) (fun _ j=>10-(intOf j).toNat)
 case atStart=>exact⟨0,9,2*n,0,rfl,rfl,rfl,h0.out,by simp,by simp, .inl rfl⟩
 case round=>
  obtain⟨i,f,u,acc,hif,rfl,rfl,hd,c0,f0,e0⟩:=hrel
  obtain⟨r0,hs,hb⟩:=vint_at hd
  obtain⟨g,off,rfl,hc⟩:=ha.out (by omega)
  have o0:=hc i r0
  have hi9:i≠9:=fun e=>by
   subst e
   rcases e0 with e0 | e0
   ·omega
   ·have:1*128 ^ 9≤u*128 ^ 9:=Nat.mul_le_mul_right _ e0
    omega
  have hd9:((i:Int)==9)=false:=by simp;omega
  clear hc
  generalize l[i]=c at o0 hs hb
  have m0:c.toNat<256:=c.toNat_lt
  have j0:u<128→c.toNat=u∧l.drop (i+1)=rest:=fun h=>by
   obtain⟨h1,h2⟩:=hs h
   exact⟨by rw [h1,UInt8.toNat_ofNat'];omega,h2⟩
  have k0:¬ u<128→∀ f',f=f'+1→c.toNat=u % 128+128∧l.drop (i+1)=Z36 f' (u / 128)++rest:=fun h f' e=>by
   obtain⟨h1,h2⟩:=hb h f' e
   exact⟨by rw [h1,UInt8.toNat_ofNat'];omega,h2⟩
  clear hs hb
  generalize c.toNat=b at o0 m0 j0 k0
  have g0:=orX acc b i f0 m0 (by omega)
  replace hd:=hd_ hd;replace f0:=hd_ f0
  by_cases hsm:u<128
  ·obtain⟨rfl,a0⟩:=j0 hsm
   rw [Nat.mod_eq_of_lt hsm,c0] at g0
   replace g0:=hd_ g0
   have p0:Hid ((N:Int)=(i:Int)+1):=hd_ (by
    have h1:=congrArg List.length a0
    rw [List.length_drop,n0.out] at h1
    have:=n0.out
    omega)
   have hz:(i:Int) > 0→¬ b=0:=fun h=>by
    rcases e0 with h1 | h1
    ·omega
    ·omega
   replace c0:=hd_ c0;clear j0 k0 a0
   have i0:¬ (b:Int) > 127:=by omega
   have l0:bits .and .u64 (((2*n:Nat):Int)) 1=0:=by
    rw [show (1:Int)=((1:Nat):Int) from rfl,bits_and_u64_nat _ _ (by omega) (by omega),Nat.and_one_is_mod]
    omega
   have v0:(((2*n:Nat):Int)) / 2=(n:Int):=by omega
   go_upto_region 8 with (fail)
   rw [g0.out]
   generalize ((2*n:Nat):Int)=D at l0 v0
   by_cases hi0:i=0
   ·subst hi0
    go_wp2
    exact bodyPost_ret (v:=.tuple #[.int .i64 (n:Int), .int .i64 1, .int .i64 0]) (by simp [results,Tryz.results158,go_sem]) rfl ⟨by rw [p0.out];rfl,rfl⟩
   ·have w0:(i:Int) > 0:=by omega
    have hb0:((b:Int)==0)=false:=by have:=hz w0;simp;omega
    clear hz;go_wp2
    exact bodyPost_ret (v:=.tuple #[.int .i64 (n:Int), .int .i64 ((i:Int)+1), .int .i64 0]) (by simp [results,Tryz.results158,go_sem]) rfl ⟨by rw [p0.out],rfl⟩
  ·obtain⟨f',rfl⟩:∃ f',f=f'+1:=⟨f-1,by omega⟩
   obtain⟨s0,a0⟩:=k0 hsm f' rfl
   have q0:b % 128=u % 128:=by omega
   rw [q0] at g0
   have d0:(acc+u % 128*128 ^ i)+u / 128*128 ^ (i+1)=2*n:=by
    rw [← c0,Nat.pow_succ]
    have t0:=Nat.div_add_mod u 128
    have:u*128 ^ i=(u % 128)*128 ^ i+u / 128*(128 ^ i*128):=by
     conv=>lhs;rw [← t0]
     rw [Nat.add_mul,Nat.mul_comm (128 ^ i) 128,← Nat.mul_assoc,Nat.mul_comm 128 (u / 128)]
     omega
    omega
   have b0:acc+u % 128*128 ^ i<128 ^ (i+1):=by
    rw [Nat.pow_succ]
    have:=f0.out
    have h2:u % 128*128 ^ i≤127*128 ^ i:=Nat.mul_le_mul_right _ (by omega)
    omega
   have u0:1≤u / 128:=by omega
   have i0:(b:Int) > 127:=by omega
   replace g0:=hd_ g0;replace a0:=hd_ a0;replace d0:=hd_ d0;replace b0:=hd_ b0;clear j0 k0 c0 q0 s0;go_upto_region 8 with (fail)
   rw [g0.out]
   go_wp2
   go_round
   case rel=>exact⟨i+1,f',u / 128,acc+u % 128*128 ^ i,by omega,by go_num,rfl,a0.out,d0.out,b0.out, .inr u0⟩
   case measure=>simp [intOf];omega
end
section
open Go.RowKit
theorem Z3x (s:ByteArray):strOfNums (s.data.toList.map fun b=>(b.toNat:Int))=s:=by
 refine Za6 ?_
 rw [strOfNums_data,List.map_map]
 conv=>rhs;rw [← List.map_id s.data.toList]
 refine List.map_congr_left fun b _=>?_
 show UInt8.ofNat ((b.toNat:Int).toNat)=b
 rw [Int.toNat_natCast]
 exact UInt8.ofNat_toNat
theorem Zab (v:Value) (l rest:List UInt8) (s:ByteArray) (w:World) (h:rdB w v l) (hl:l=Z4c (2*s.size)++(s.data.toList++rest)) (hs:s.size≤65536) :
  Calls Tryz.prog 219 #[v] w fun r w'=>r=.returned (.tuple #[.string s, .int .i64 (((Z4c (2*s.size)).length+s.size:Nat):Int), .int .i64 0])∧w=w':=by
 have hG:=Z96 v l (s.data.toList++rest) s.size w h hl (by omega)
 obtain⟨a,d0,rfl,hm,hM,ha⟩:=h
 unfold maxLen at hM
 have f0:=Z2e (2*s.size)
 have c0:l.length=(Z4c (2*s.size)).length+s.size+rest.length:=by rw [hl,List.length_append,List.length_append,Z17];omega
 have a0:∀ i (hi:i<s.size),∃ h:(Z4c (2*s.size)).length+i<l.length,l[(Z4c (2*s.size)).length+i]=s.data.toList[i]'(by rw [Z17];exact hi):=fun i hi=>by
  refine⟨by omega,?_⟩
  simp only [hl]
  rw [List.getElem_append_right (by omega)]
  simp only [Nat.add_sub_cancel_left]
  rw [List.getElem_append_left (by rw [Z17];exact hi)]
 obtain⟨g,off,rfl,hc⟩:=ha (by omega)
 generalize (Z4c (2*s.size)).length=N at hG f0 c0 a0 ⊢
 have hcv:∀ c,(convert 103 9 (.slice (some ⟨g,off+N,none⟩) s.size c)).run Tryz.prog w=.ok (.string s) w:=fun c=>by
  have:=run_convert_bytes_arg w 103 5 Tryz.underlying103 Tryz.underlying5 g (off+N) s.size c (s.data.toList.map fun b=>(b.toNat:Int)) (by rw [List.length_map,Z17]) (fun i hi=>by
   obtain⟨h1,h2⟩:=a0 i hi
   have:=hc (N+i) h1
   rw [h2] at this
   rw [Nat.add_assoc,this]
   have e0:i<s.data.toList.length:=by rw [Z17];exact hi
   rw [List.getD_eq_getElem?_getD,List.getElem?_map,List.getElem?_eq_getElem e0];rfl) 9 Tryz.underlying9
  rw [Z3x] at this
  exact this
 have b0:d0=N→∀ c,(convert 103 9 (.slice (some ⟨g,off,none⟩) s.size c)).run Tryz.prog w=.ok (.string s) w:=fun hcN c=>by
  have:=run_convert_bytes_arg w 103 5 Tryz.underlying103 Tryz.underlying5 g off s.size c (s.data.toList.map fun b=>(b.toNat:Int)) (by rw [List.length_map,Z17]) (fun i hi=>by omega) 9 Tryz.underlying9
  rw [Z3x] at this
  exact this
 replace hG:=hd_ hG
 have hle:(N:Int)+s.size≤l.length:=by omega
 clear hc a0 hl ha c0
 go_enter Tryz.func219,Tryz.ntmps219
 go_wp2_with fail
 refine hG.out.mono ?_
 rintro r w1 ⟨rfl,rfl⟩
 by_cases hcN:d0=N
 ·have g0:=b0 hcN
  clear b0;subst hcN;go_wp2
  exact bodyPost_ret (v:=.tuple #[.string s, .int .i64 ((d0:Int)+s.size), .int .i64 0]) (by simp [results,Tryz.results219,go_sem]) rfl ⟨by rw [Int.natCast_add],rfl⟩
 ·clear b0
  go_wp2
  exact bodyPost_ret (v:=.tuple #[.string s, .int .i64 ((N:Int)+s.size), .int .i64 0]) (by simp [results,Tryz.results219,go_sem]) rfl ⟨by rw [Int.natCast_add],rfl⟩
end
section
open Go.RowKit
theorem Zfi {w:World} {g:Nat} {l:List UInt8} {cs:Array Value} (hb:w.heap[g]?=some (.cells cs 5 (0,0))) (hc:cs.toList=Z0q l) (hm:l.length≤maxLen) (base:Nat) (hg:base≤g):ownB w base (.slice (some ⟨g,0,none⟩) l.length l.length) l:=by
 have a0:cs.size=l.length:=by
  have:=congrArg List.length hc
  unfold Z0q at this
  simpa using this
 refine⟨by unfold Z0q;simp, .inr ⟨g,l.length,cs,rfl,hg,hb,Nat.le_refl _,hm,by omega,?_⟩⟩
 rw [hc,List.take_of_length_le (by unfold Z0q;simp)]
theorem Zac (c:Nat) (w:World) (hc:c<4294967296) :
  Calls Tryz.prog 192 #[.int .u32 (c:Int)] w fun r w'=>∃ v',r=.returned v'∧ownB w' w.heap.size v' (Z4p c)∧Below w.heap.size w w':=by
 have a0:Z0q (Z4p c)=[.int .u8 ((c:Int) / 16777216), .int .u8 ((c:Int) / 65536 % 256), .int .u8 ((c:Int) / 256 % 256), .int .u8 ((c:Int) % 256)]:=by
  unfold Z0q Z4p
  simp only [List.map_cons,List.map_nil,UInt8.toNat_ofNat']
  have h1:((c / 16777216 % 2 ^ 8:Nat):Int)=(c:Int) / 16777216:=by omega
  rw [h1];rfl
 replace a0:=hd_ a0
 go_enter Tryz.func192,Tryz.ntmps192
 go_wp2
 go_ret
 exact⟨.slice (some ⟨w.heap.size,0,none⟩) 4 4,rfl,Zfi (l:=Z4p c) (Z0a w _) (by rw [a0.out]) (by show 4≤maxLen;unfold maxLen;omega) _ (Nat.le_refl _),(Below.refl _ _).alloc (Nat.le_refl _) _⟩
end
section
open Go.RowKit
theorem Z15 {P:Program} {w:World} {ops:Array Oper} {rest:List Oper} {o:Oper} {a:Act} {Q:Exit→Act→World→Prop} (hgd:o.guard=none) (s x:Operand) (t:TypeId)
  (ho:o.op=.call { callee:=.builtin .append,args:=#[s,x],argTypes:=#[t,t] })
  (base:Nat) (e:TypeId) (i:TypeInfo) (z:Value) (size bytes:Nat) (ht:P.underlying t=some (.slice e)) (hi:P.info? e=some i) (hz:i.zero=some z)
  (hsize:i.size=size) (hby:i.bytes=bytes) (hzs:z.cells.size=size) (hsz:0<size)
  (v:Value) (n:Nat) (xs:List Value) (hs:a.eval s=v) (hown:w.ownsRow base e size v n xs)
  (v2:Value) (m:Nat) (news:List Value) (hx:a.eval x=v2) (hsrc:srcRow w size v2 m news) (h1:∀ u ∈ news,u.oneCell'=true)
  (h63:n+m≤maxLen) (hbytes:(n+m)*bytes≤140737488355328) (hbase:base≤w.heap.size)
  (h:∀ v' w',w'.ownsRow base e size v' (n+m) (xs++news)→w.grownBy w' v.ownBlock→(v'.ownBlock=v.ownBlock∨v'.ownBlock=some w.heap.size)→wpList P ops Q rest (a.put o.dst v') w'):wpList P ops Q (o :: rest) a w:=
 wpList_plain hgd fun _ hK=>Z6e w s x t ho base e i z size bytes ht hi hz hsize hby hzs hsz v n xs hs hown v2 m news hx hsrc h1 h63 hbytes hbase fun v' w' h2 h3 h4=>hK _ _ (h v' w' h2 h3 h4)
theorem rdB.src {w:World} {v:Value} {l:List UInt8} (h:rdB w v l):srcRow w 1 v l.length (Z0q l):=by
 obtain⟨a,a0,rfl,hm,hM,ha⟩:=h
 refine⟨by unfold Z0q;simp,?_⟩
 by_cases h0:0<l.length
 ·obtain⟨b,off,rfl,hc⟩:=ha h0
  refine .inr ⟨_,a0,rfl,fun j u hj=>?_⟩
  have b0:j<l.length:=by
   have:=(List.getElem?_eq_some_iff.1 hj).1
   unfold Z0q at this
   simpa using this
  unfold Z0q at hj
  rw [List.getElem?_map,List.getElem?_eq_getElem b0] at hj
  have e:(⟨b,off,none⟩:Addr).add j=⟨b,off+j,none⟩:=by
   unfold Addr.add;split
   ·next h=>subst h;rfl
   ·rfl
  rw [e,hc j b0]
  simpa using hj
 ·have hl:l=[]:=List.eq_nil_of_length_eq_zero (by omega)
  subst hl
  cases a with
  | none=>exact .inl ⟨a0,rfl,rfl⟩
  | some ad=>exact .inr ⟨ad,a0,rfl,fun j u hj=>by simp [Z0q] at hj⟩
theorem Z26 (l:List UInt8):∀ u ∈ Z0q l,u.oneCell'=true:=by
 intro u hu
 unfold Z0q at hu
 obtain⟨b,_,rfl⟩:=List.mem_map.1 hu
 rfl
end
section
open Go.RowKit
theorem Z5p (v:Value) (l:List UInt8) (w:World) (h:rdB w v l) (hl:l.length≤100000) :
  Calls Tryz.prog 156 #[v] w fun r w'=>∃ v',r=.returned v'∧ownB w' w.heap.size v' l∧Below w.heap.size w w':=by
 obtain⟨a,a0,rfl,hm,hM,ha⟩:=h
 cases a with
 | none=>
   have h0:l=[]:=by
    rcases Nat.eq_zero_or_pos l.length with h | h
    ·exact List.eq_nil_of_length_eq_zero h
    ·obtain⟨b,off,e,_⟩:=ha h;cases e
   subst h0
   refine (Any.bytes_Clone_nil Tryz.laysCloneB 0 a0 w).mono ?_
   rintro r w' ⟨rfl,rfl⟩
   exact⟨_,rfl,World.ownsRow_nil _ _ _ _,Below.refl _ _⟩
 | some ad=>
   refine (Any.bytes_Clone_at Tryz.laysCloneB ad l.length a0 (l.map fun b=>(b.toNat:Int)) w (by simp) (by omega) (fun i hi=>?_)).mono ?_
   ·obtain⟨b,off,e,hc⟩:=ha (by omega)
    injection e with e
    subst e
    have e2:(⟨b,off,none⟩:Addr).add i=⟨b,off+i,none⟩:=by
     unfold Addr.add;split
     ·next h=>subst h;rfl
     ·rfl
    rw [e2,hc i hi,List.getD_eq_getElem?_getD,List.getElem?_map,List.getElem?_eq_getElem hi];rfl
   ·rintro r w' ⟨v',rfl,ho,_,hb⟩
    refine⟨v',rfl,?_,hb⟩
    unfold ownB Z0q
    rw [List.map_map] at ho
    exact ho
theorem rdB.below {w w':World} {v:Value} {l:List UInt8} (h:rdB w v l) (hb:Below w.heap.size w w'):rdB w' v l:=by
 obtain⟨a,cap,rfl,hm,hM,ha⟩:=h
 refine⟨a,cap,rfl,hm,hM,fun h0=>?_⟩
 obtain⟨b,off,rfl,hc⟩:=ha h0
 exact⟨b,off,rfl,fun j hj=>by rw [hb.cell (Z0f (hc j hj))];exact hc j hj⟩
theorem Zhz (v:Value) (l:List UInt8) (w:World) (h:rdB w v l) (hl:l.length≤100000) :
  Calls Tryz.prog 199 #[v] w fun r w'=>∃ v',r=.returned v'∧ownB w' w.heap.size v' (Z3t l)∧Below w.heap.size w w':=by
 obtain⟨i0,hi,r0,q0,p0⟩:=info_parts Z1p
 replace hi:=hd_ hi
 have hC:=hd_ (Z5p v l w h hl)
 obtain⟨c,hc⟩:∃ c,Ze0 l=c:=⟨_,rfl⟩
 have s0:c<4294967296:=by
  rw [← hc];unfold Ze0
  exact Z74 (by omega) (Z32 l (by omega))
 have hT:Z3t l=l++Z4p c:=by unfold Z3t;rw [hc]
 rw [hT]
 replace hc:=hd_ hc;replace h:=hd_ h;clear hT
 go_enter Tryz.func199,Tryz.ntmps199
 go_wp2_with fail
 refine hC.out.mono ?_
 rintro r w1 ⟨v1,rfl,e0,d0⟩
 have n0:=hd_ (h.out.below d0)
 replace e0:=hd_ e0;replace d0:=hd_ d0;go_wp2_with fail
 refine (Ze1 v l _ n0.out).mono ?_
 rintro r w2 ⟨rfl,rfl⟩
 rw [hc.out]
 go_wp2_with fail
 refine (Zac c _ s0).mono ?_
 rintro r w3 ⟨v3,rfl,k0,h0⟩
 have o0:=hi.out
 have t0:=d0.out.size
 have f0:=d0.out.trans (h0.mono t0)
 have m0:=f0.size
 have a0:=e0.out.grow h0
 have c0:=k0.rd.src
 unfold ownB at a0
 replace a0:=hd_ a0;replace c0:=hd_ c0;replace f0:=hd_ f0;clear k0 h0 e0 d0 n0
 go_wp2_with (first
  | (at_builtin;refine Z15 rfl _ _ 103 rfl w.heap.size 5 i0 (.int .u8 0) 1 1 Tryz.underlying103 o0 r0 q0 p0 rfl (by decide) v1 l.length (Z0q l) rfl a0.out v3 (Z4p c).length (Z0q (Z4p c)) rfl c0.out (Z26 _) (by show l.length+4≤maxLen;unfold maxLen;omega) (by show (l.length+4)*1≤_;omega) m0 ?_))
 intro v4 w4 b0 l0 _
 have g0:ownB w4 w.heap.size v4 (l++Z4p c):=by
  unfold ownB
  rw [List.length_append,Z0t];exact b0
 have j0:Below w.heap.size w w4:=f0.out.trans ((Below.refl w.heap.size w3).grown l0 m0 (fun k hk=>(a0.out.lt k hk).1))
 clear l0 b0;replace g0:=hd_ g0;replace j0:=hd_ j0;go_wp2
 go_ret
 exact⟨v4,rfl,g0.out,j0.out⟩
end
section
open Go.RowKit
theorem rdB.isIn {w:World} {a:Option Addr} {n c:Nat} {l:List UInt8} (h:rdB w (.slice a n c) l):n=l.length∧Lib.BytesIn w a n (l.map fun b=>(b.toNat:Int)):=by
 obtain⟨a',cap,e,hm,hM,ha⟩:=h
 cases e
 refine⟨rfl,fun h0=>?_⟩
 obtain⟨b,off,e,hc⟩:=ha h0
 refine⟨b,off,e,fun i hi=>?_⟩
 rw [hc i hi,List.getD_eq_getElem?_getD,List.getElem?_map,List.getElem?_eq_getElem hi];rfl
theorem Z4q (v1 v2:Value) (l:List UInt8) (w:World) (h1:rdB w v1 l) (h2:rdB w v2 l) :
  Calls Tryz.prog 161 #[v1,v2] w fun r w'=>r=.returned (.bool true)∧w=w':=by
 have b0:=h1
 have a0:=h2
 obtain⟨a1,c1,rfl,_⟩:=b0
 obtain⟨a2,c2,rfl,_⟩:=a0
 refine (Any.bytes_Equal_all Tryz.laysEqualB a1 a2 l.length c1 l.length c2 (l.map fun b=>(b.toNat:Int)) (l.map fun b=>(b.toNat:Int)) w (by simp) (by simp) h1.isIn.2 h2.isIn.2).mono ?_
 rintro r w' ⟨rfl,rfl⟩
 exact⟨by simp,rfl⟩
theorem Z3y {w:World} {base base':Nat} {v:Value} {l:List UInt8} (h:ownB w base v l) (hb:base'≤base):ownB w base' v l:=by
 obtain⟨h1,h2⟩:=h
 refine⟨h1,h2.imp id ?_⟩
 rintro⟨g,cap,cur,e1,e2,e3⟩
 exact⟨g,cap,cur,e1,Nat.le_trans hb e2,e3⟩
theorem cOpen_ok (v:Value) (b:List UInt8) (w:World) (h:rdB w v (Z3t b)) (hl:b.length≤90000) :
  Calls Tryz.prog 157 #[v] w fun r w'=>∃ v',r=.returned (.tuple #[v', .bool true])∧ownB w' w.heap.size v' b∧Below w.heap.size w w':=by
 obtain⟨N,hN⟩:∃ N,b.length=N:=⟨_,rfl⟩
 have c0:=Z2r b
 obtain⟨a,j0,rfl,hm,hM,ha⟩:=h
 obtain⟨g,off,rfl,hc⟩:=ha (by omega)
 have h1:∀ c,N≤c→c≤maxLen→rdB w (.slice (some ⟨g,off,none⟩) N c) b:=fun c h1 h2=>by
  refine⟨_,c,by rw [hN],by omega,h2,fun h0=>⟨g,off,rfl,fun j hj=>?_⟩⟩
  rw [hc j (by omega)]
  simp only [Z3t]
  rw [List.getElem_append_left hj]
 have h2:∀ c,4≤c→c≤maxLen→rdB w (.slice (some ⟨g,off+N,none⟩) 4 c) (Z4p (Ze0 b)):=fun c h1 h2=>by
  refine⟨_,c,rfl,h1,h2,fun h0=>⟨g,off+N,rfl,fun j hj=>?_⟩⟩
  have hj4:j<4:=hj
  have:=hc (N+j) (by omega)
  rw [← Nat.add_assoc] at this
  rw [this]
  simp only [Z3t]
  rw [List.getElem_append_right (by omega)]
  simp only [hN,Nat.add_sub_cancel_left]
 rw [c0,hN] at hm
 have e4:(Z3t b).length=N+4:=by rw [c0,hN]
 rw [e4]
 unfold maxLen at hM
 obtain⟨c,e0⟩:∃ c,Ze0 b=c:=⟨_,rfl⟩
 have p0:c<4294967296:=by
  rw [← e0];unfold Ze0
  exact Z74 (by omega) (Z32 b (by omega))
 rw [e0] at h2
 have hN9:N≤90000:=by omega
 have r1:=hd_ (h1 j0 (by omega) hM)
 have r2:=hd_ (h2 (j0-N) (by omega) (by unfold maxLen;omega))
 replace e0:=hd_ e0;replace hN:=hd_ hN;clear h1 h2 hc ha c0 e4 hl
 have hg:decide ((N:Int)<0)=false:=by simp
 go_enter Tryz.func157,Tryz.ntmps157
 go_upto_region 2 with (fail)
 refine Z6d (fun j=>w.heap.size≤j) w (.q 0 (.q 1 (.q 2 (.q 3 (.q 4 (.q 5 (.q 8 (.q 9 (.q 10 (.l 6 (.l 7 (.l 11 (.q 12 (.q 13 .fin)))))))))))))) (by kernel_rfl) (by kernel_rfl) (Chg.refl _ _) ?_
 intro w2 d0 a0 _
 have r12:=hd_ (r1.out.below a0)
 have r22:=hd_ (r2.out.below a0)
 have n0:=a0.size
 replace a0:=hd_ a0;clear d0
 repeat (refine pm_q rfl ?_;go_big_quiet_step (fail);refine wpQuiet_nil ?_)
 refine pm_l rfl (by kernel_rfl) ?_
 intro K hK;go_simp
 refine (Ze1 _ b _ r12.out).mono ?_
 rintro r w3 ⟨rfl,rfl⟩
 refine hK _ _ (.of_below a0.out) ?_
 clear hK K
 rw [e0.out]
 refine pm_l rfl (by kernel_rfl) ?_
 intro K hK;go_simp
 refine (Zac c _ p0).mono ?_
 rintro r w4 ⟨v4,rfl,l0,i0⟩
 have b0:=a0.out.trans (i0.mono n0)
 refine hK _ _ (.of_below b0) ?_
 clear hK K
 have r24:=r22.out.below i0
 have f0:=l0.rd
 replace r24:=hd_ r24;replace b0:=hd_ b0;replace f0:=hd_ f0;clear l0 i0
 refine pm_l rfl (by kernel_rfl) ?_
 intro K hK;go_simp
 refine (Z4q _ _ (Z4p c) _ f0.out r24.out).mono ?_
 rintro r w5 ⟨rfl,rfl⟩
 refine hK _ _ (.of_below b0.out) ?_
 clear hK K
 repeat (refine pm_q rfl ?_;go_big_quiet_step (fail);refine wpQuiet_nil ?_)
 refine pm_fin ?_
 have r14:=hd_ (r1.out.below b0.out)
 have c0:=b0.out.size
 clear r12 r22 r24 f0;go_wp2_with fail
 refine (Z5p _ b _ r14.out (by have:=hN.out;omega)).mono ?_
 rintro r w6 ⟨v6,rfl,m0,k0⟩
 have o0:=hd_ (b0.out.trans (k0.mono c0))
 have g0:ownB w6 w.heap.size v6 b:=Z3y m0 c0
 replace g0:=hd_ g0;clear m0 k0;go_wp2
 go_ret2
 exact⟨v6,rfl,g0.out,o0.out⟩
end
section
open Go.RowKit
structure MayM (m:Ms):Prop where
 k1:1≤m.kind
 k2:m.kind≤13
 f1:1≤m.frm
 f2:m.frm≤7
 t1:1≤m.too
 t2:m.too≤7
 ft:m.frm≠m.too
 b1:1≤m.boot
 b2:m.boot≤1099511627776
 v1:0≤m.view
 v2:m.view≤1099511627776
 l1:0≤m.last
 l2:m.last≤1099511627776
 n1:0≤m.num
 n2:m.num≤1099511627776
 c1:0≤m.clock
 c2:m.clock≤1099511627776
 m1:0≤m.mem
 m2:m.mem≤127
 p1:0≤m.pos
 p2:m.pos≤60
 o1:0≤m.com
 o2:m.com≤60
 e1:m.ents.length≤60
 e2:∀ e ∈ m.ents,Z2l e=true
end
end Go.Proofs.YtbonjbokofkafaaGreat
