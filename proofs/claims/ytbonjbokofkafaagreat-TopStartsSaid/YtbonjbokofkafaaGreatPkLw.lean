/- Lemmas of the proof: PkLw. -/
import Derived.Test.YtbonjbokofkafaaGreatPkZ
import Derived.Test.YtbonjbokofkafaaGreatPkB
import Derived.Test.YtbonjbokofkafaaGreatPkA
namespace Go.Proofs.YtbonjbokofkafaaGreat
set_option linter.unusedVariables false
set_option maxRecDepth 100000
set_option maxHeartbeats 64000000
section
open Go.RowKit
theorem infoInst:(Tryz.prog.info? 158).map (fun i=>(i.zero,i.size,i.bytes))=some (some (.agg #[.int .i64 0, .int .i64 0, .int .i64 0]),3,24):=by kernel_rfl
theorem src_form {w6:World} {base:Nat} {e:TypeId} {size n H:Nat} {v v6:Value} {xs:List Value} (h:w6.ownsRow base e size v6 (n+1) xs) (hat:v6.ownBlock=v.ownBlock∨v6.ownBlock=some H) :
  ∃ g cap,v6=.slice (some ⟨g,0,none⟩) (n+1) cap∧(v.ownBlock=some g∨g=H)∧g<w6.heap.size:=by
 rcases h.2 with ⟨_,h0⟩ | ⟨g,cap,cur,hv,_,hg,_⟩
 ·omega
 ·refine⟨g,cap,hv,?_,Z04 hg⟩
  rw [hv] at hat
  rcases hat with e | e
  ·exact .inl e.symm
  ·injection e with e;exact .inr e
def Wl.calm (W:Wl):Bool:=W.ps.all fun p=>match p.s with
 | none=>true
 | some s=>s.td.isEmpty&&s.L.isEmpty
theorem Zkt {W:Wl} (h:W.calm=true) {i:Nat} {s:Nd} (hs:(Z0i W i).s=some s):s.td=[]∧s.L=[]:=by
 unfold Z0i at hs
 rw [List.getD_eq_getElem?_getD] at hs
 cases hp:W.ps[i-1]? with
 | none=>rw [hp] at hs;cases hs
 | some p=>
   rw [hp] at hs
   have hs:p.s=some s:=hs
   have:=List.all_eq_true.1 h p (List.mem_of_getElem? hp)
   rw [hs] at this
   simpa using this
theorem Zlo {L:Lw} {id:Nat} (hs:(Z0i L.W id).s=none):L.look id=L:=by unfold Lw.look;rw [hs]
theorem Zlp {L:Lw} {id:Nat} {s:Nd} (hs:(Z0i L.W id).s=some s) (ht:s.td=[]):L.look id=L.viewed s:=by
 unfold Lw.look
 rw [hs]
 dsimp only
 rw [ht,List.drop_nil];rfl
section
variable {own own':Nat→Nat} {w0 w wa w':World} {B B':LwAt} {L L':Lw} {c m C:Nat}
theorem LwO.row3 (h:LwO own w0 w B L):∃ ao cap,B.vv=.slice ao L.views.length cap∧(0<L.views.length→∃ g,ao=some ⟨g,0,none⟩∧g<w.heap.size∧g≠B.lb∧∀ j (hj:j<L.views.length),w.cell? ⟨g,j*3,none⟩=some (.int .i64 L.views[j].1)∧w.cell? ⟨g,j*3+1,none⟩=some (.int .i64 L.views[j].2.1)):=by
 obtain⟨ho,a0⟩:=h.r.vws
 have hr:=ho.rd Zkz
 rcases ho.2 with ⟨hv,h0⟩ | ⟨g,cap,cur,hv,_,hg,_⟩
 ·have:L.views=[]:=by
   cases hl:L.views with
   | nil=>rfl
   | cons x l=>rw [hl] at h0;cases h0
  exact⟨none,0,by rw [hv,this];rfl,fun h1=>by rw [this] at h1;exact absurd h1 (Nat.lt_irrefl 0)⟩
 ·refine⟨some ⟨g,0,none⟩,cap,hv,fun h0=>⟨g,rfl,Z04 hg,fun e=>?_,fun j hj=>?_⟩⟩
  ·have h7:=a0 g (by rw [hv];rfl)
   have h4:=h.r.ob
   rw [← e,h7] at h4
   cases h4
  ·obtain⟨ad,cp,b0,_,_,ha⟩:=hr
   obtain⟨b,off,e2,hc⟩:=ha h0
   rw [hv] at b0
   have e3:(some ⟨g,0,none⟩:Option Addr)=ad:=by injection b0
   rw [e2] at e3
   injection e3 with e3
   have eb:b=g:=by injection e3 with e4;exact e4.symm
   have eo:off=0:=by injection e3 with e4 e5;exact e5.symm
   subst eb;subst eo
   have h1:=hc j hj 0 _ rfl
   have h2:=hc j hj 1 _ rfl
   rw [Nat.zero_add] at h1 h2
   exact⟨h1,h2⟩
theorem Zk9 (h:LwO own w0 w B L) (hf:WOk C L.W) (hC:C≤60000) (hI:LwI c m L) (hm:m≤1000000000000) (hq:L.W.calm=true) :
  Calls Tryz.prog 107 #[Z09 B.lb] w fun r w'=>r=.returned (.tuple #[])∧∃ own' B',LwO own' w0 w' B' (L.looks L.W.n.toNat 1)∧B'.lb=B.lb∧B'.A=B.A∧Keeps own own' w w':=by
 obtain⟨N,hN⟩:∃ N:Nat,L.W.n=N:=⟨L.W.n.toNat,by have:=h.wl.n3;omega⟩
 have hN7:N≤7:=by have:=h.wl.n7;omega
 rw [hN,Int.toNat_natCast]
 obtain⟨i0,hi,n2,o2,p2⟩:=info_parts infoInst
 replace hi:=hd_ hi;replace h:=hd_ h;replace hf:=hd_ hf;replace hI:=hd_ hI;replace hq:=hd_ hq;replace hN:=hd_ hN
 go_enter Tryz.func107,Tryz.ntmps107
 go_wp2
 go_loopw [2] (fun i wr=>∃ (k:Nat) (own':Nat→Nat) (B':LwAt),k≤N∧i=.int .i64 ((k+1:Nat):Int)∧LwO own' w0 wr B' (L.looks k 1)∧B'.lb=B.lb∧B'.A=B.A∧Keeps own own' w wr) (fun i _=>N+1-(intOf i).toNat)
 case atStart=>exact⟨0,own,B,Nat.zero_le _,by go_num,h.out,rfl,rfl,Keeps.refl _ _⟩
 case round=>
  obtain⟨k,ownk,Bk,hk,rfl,hK,el,ea,kk⟩:=hrel
  have e0:(L.looks k 1).W=L.W:=Zl3 k 1 L
  have p0:=LwI.looks k 1 hI.out hf.out (Nat.le_refl 1)
  have s0:L.looks (k+1) 1=(L.looks k 1).look (k+1):=by rw [Zkp,Nat.add_comm]
  have j0:k=N→L.looks k 1=L.looks N 1:=fun e=>by rw [e]
  generalize L.looks k 1=X at hK e0 p0 s0 j0
  obtain⟨cs,b0,C0⟩:=hK.cells
  have c1:wr.cell? ⟨B.lb,1,none⟩=some (.int .i64 N):=by rw [← el,Z00 b0 1,C0.c1,e0,hN.out]
  have c0:wr.cell? ⟨B.lb,0,none⟩=some (Z09 B.A.wb):=by rw [← el,Z00 b0 0,C0.c0,ea]
  have l0:B.lb<wr.heap.size:=el ▸ Z04 b0
  clear b0 C0;replace el:=hd_ el;replace ea:=hd_ ea;replace s0:=hd_ s0
  by_cases hlt:k<N
  ·clear j0
   have o1:decide ((k:Int)+1≤(N:Int))=true:=decide_eq_true (by omega)
   have g2:((k+1:Nat):Int)=(k:Int)+1:=by omega
   have d0:=Z1n hK.wl (i:=k+1) (by omega) (by rw [e0,hN.out];omega)
   rw [ea.out] at d0
   cases hs:(Z0i X.W (k+1)).s with
   | none=>
     have k0:xV Bk.A X.W (k+1)=.pointer none:=by unfold xV;rw [hs];rfl
     rw [ea.out] at k0
     rw [k0] at d0
     have e2:=hd_ (s0.out.trans (Zlo hs))
     replace d0:=hd_ d0;replace hK:=hd_ hK;replace kk:=hd_ kk;replace k0:=hd_ k0;replace hs:=hd_ hs;replace e0:=hd_ e0;go_wp2_with fail
     refine d0.out.mono ?_
     rintro r w1 ⟨rfl,n0⟩
     have h1:=hd_ (hK.out.grow n0)
     have k1:=hd_ (kk.out.trans (.below n0))
     clear d0 n0;go_wp2
     go_roundw
     case rel=>exact⟨k+1,ownk,Bk,by omega,by go_num,by rw [e2.out];exact h1.out,el.out,ea.out,k1.out⟩
     case measure=>simp [intOf];omega
   | some s=>
     have k0:xV Bk.A X.W (k+1)=Z09 (Bk.A.nd (k+1)).b:=by unfold xV;rw [hs];rfl
     rw [ea.out] at k0
     rw [k0] at d0
     have d1:=(Zkt (by rw [e0];exact hq.out) hs).1
     have e2:=hd_ (s0.out.trans (Zlp hs d1))
     have hT:=fun w1 (hw1:LwO ownk w0 w1 Bk X)=>wTold hw1.wl (by rw [e0];exact hf.out) (by omega) (by omega) hs
     have hV:=fun w1 (hw1:LwO ownk w0 w1 Bk X)=>wView hw1.wl (by rw [e0];exact hf.out) (by omega) hs
     rw [ea.out,d1] at hT
     rw [ea.out] at hV
     have r1:=p0.told (k+1)
     obtain⟨tq,e1⟩:∃ tq,tq=X.told.getD (k+1) 0:=⟨_,rfl⟩
     have d2:decide (tq<0)=false:=decide_eq_false (by rw [e1];omega)
     clear r1;replace e1:=hd_ e1;replace d0:=hd_ d0;replace hT:=hd_ hT;replace hV:=hd_ hV;replace hK:=hd_ hK;replace kk:=hd_ kk;replace k0:=hd_ k0;replace hs:=hd_ hs;replace e0:=hd_ e0;replace d1:=hd_ d1;replace p0:=hd_ p0;go_wp2_with fail
     refine d0.out.mono ?_
     rintro r w1 ⟨rfl,n0⟩
     have h1:=hK.out.grow n0
     have k1:=hd_ (kk.out.trans (.below n0))
     have t1:=hd_ (hT.out w1 h1)
     replace h1:=hd_ h1;clear d0 n0 hT c0 c1 l0;go_wp2_with fail
     refine t1.out.mono ?_
     rintro r w2 ⟨tv,rfl,c2,i1⟩
     obtain⟨ta,tc,rfl⟩:=(c2.rd Z0k).len
     have h2:=h1.out.grow i1
     have k2:=hd_ (k1.out.trans (.below i1))
     have v1:=hd_ (hV.out w2 h2)
     obtain⟨cs2,b2,C2⟩:=h2.cells
     have t2:w2.cell? ⟨B.lb,11+(k+1),none⟩=some (.int .i64 tq):=by rw [← el.out,Z00 b2,C2.told (k+1) (by omega),e1.out]
     have l2:B.lb<w2.heap.size:=el.out ▸ Z04 b2
     clear b2 C2;replace h2:=hd_ h2;clear t1 i1 c2 hV;go_wp2
     go_loopw [5] (fun _ wr=>wr=w2) (fun _ _=>0)
     case atStart=>rfl
     case round=>
      subst hrel;go_wp2_with fail
      refine v1.out.mono ?_
      rintro r w3 ⟨rfl,j1⟩
      have h3:=h2.out.grow j1
      have k3:=hd_ (k2.out.trans (.below j1))
      obtain⟨v,hv⟩:∃ v,v=s.view.1:=⟨_,rfl⟩
      obtain⟨t,ht⟩:∃ t,t=s.view.2.1:=⟨_,rfl⟩
      rw [← hv,← ht]
      clear v1 j1 t2 l2 d2
      cases hin:s.view.2.2 with
      | false=>
        have e3:=hd_ (e2.out.trans (show X.viewed s=X by unfold Lw.viewed;rw [hin];rfl))
        replace h3:=hd_ h3;replace hin:=hd_ hin;replace hv:=hd_ hv;replace ht:=hd_ ht;go_wp2
        go_roundw
        case rel=>exact⟨k+1,ownk,Bk,by omega,by go_num,by rw [e3.out];exact h3.out,el.out,ea.out,k3.out⟩
        case measure=>simp [intOf];omega
      | true=>
        have e3:=hd_ (e2.out.trans (show X.viewed s=if X.seen v t then X else { X with views:=X.views++[(v,t,X.W.real)] } by unfold Lw.viewed;rw [hin,hv,ht];rfl))
        obtain⟨vo,vc,h0,f1⟩:=h3.row3
        obtain⟨cs3,b3,C3⟩:=h3.cells
        have s1:w3.cell? ⟨B.lb,20,none⟩=some (.slice vo X.views.length vc):=by rw [← el.out,Z00 b3,C3.c20,h0]
        have l3:B.lb<w3.heap.size:=el.out ▸ Z04 b3
        obtain⟨V,hV⟩:∃ V,V=X.views:=⟨_,rfl⟩
        rw [← hV] at s1 f1 h0
        have p1:X.seen v t=V.any fun x=>x.1==v&&x.2.1==t:=by rw [hV];rfl
        clear b3 C3
        have hvl:V.length≤1000030000000:=by
         have h1:=p0.out.vl
         rw [← hV] at h1
         have h2:k*(60*C+1)≤7*(60*60000+1):=Nat.mul_le_mul (by omega) (by omega)
         omega
        replace h3:=hd_ h3;replace hin:=hd_ hin;replace hv:=hd_ hv;replace ht:=hd_ ht;replace hV:=hd_ hV;replace p1:=hd_ p1;replace f1:=hd_ f1;replace h0:=hd_ h0;go_wp2
        go_loopw [9,10] (fun sn i wr=>∃ j:Nat,j≤V.length∧i=.int .i64 j∧sn=.bool ((V.take j).any fun x=>x.1==v&&x.2.1==t)∧wr=w3) (fun _ i _=>V.length-(intOf i).toNat)
        case atStart=>exact⟨0,Nat.zero_le _,rfl,rfl,rfl⟩
        case round=>
         obtain⟨j,hj,rfl,rfl,rfl⟩:=hrel
         by_cases hjl:j<V.length
         ·have hlj:decide ((j:Int)<(V.length:Int))=true:=decide_eq_true (by omega)
          obtain⟨g,rfl,lg,_,f0⟩:=f1.out (by omega)
          obtain⟨q0,q1⟩:=f0 j hjl
          have a0:((V.take (j+1)).any fun x=>x.1==v&&x.2.1==t)=(((V.take j).any fun x=>x.1==v&&x.2.1==t)||(V[j].1==v&&V[j].2.1==t)):=by
           rw [List.take_succ_eq_append_getElem hjl,List.any_append];simp
          generalize ((V.take j).any fun x=>x.1==v&&x.2.1==t)=sn at a0
          generalize V[j]=y at q0 q1 a0
          obtain⟨y1,y2,y3⟩:=y
          replace a0:=hd_ a0;clear f0
          cases sn with
          | true=>
            go_wp2
            go_roundw
            case rel=>exact⟨j+1,by omega,by go_num,by rw [a0.out];rfl,trivial⟩
            case measure=>simp [intOf];omega
          | false=>
            cases h1:(y1==v) with
            | false=>
              rw [h1] at a0
              go_wp2
              go_roundw
              case rel=>exact⟨j+1,by omega,by go_num,by rw [a0.out];rfl,trivial⟩
              case measure=>simp [intOf];omega
            | true=>
              cases h2:(y2==t) with
              | false=>
                rw [h1,h2] at a0
                go_wp2
                go_roundw
                case rel=>exact⟨j+1,by omega,by go_num,by rw [a0.out];rfl,trivial⟩
                case measure=>simp [intOf];omega
              | true=>
                rw [h1,h2] at a0
                go_wp2
                go_roundw
                case rel=>exact⟨j+1,by omega,by go_num,by rw [a0.out];rfl,trivial⟩
                case measure=>simp [intOf];omega
         ·have i2:decide ((j:Int)<(V.length:Int))=false:=decide_eq_false (by omega)
          have a0:((V.take j).any fun x=>x.1==v&&x.2.1==t)=X.seen v t:=by rw [p1.out,List.take_of_length_le (by omega)]
          rw [a0]
          replace a0:=hd_ a0
          cases hse:X.seen v t with
          | true=>
            have e4:L.looks (k+1) 1=X:=by rw [e3.out,hse];rfl
            replace e4:=hd_ e4;replace hse:=hd_ hse;go_wp2
            go_roundw
            case rel=>exact⟨k+1,ownk,Bk,by omega,by go_num,by rw [e4.out];exact h3.out,el.out,ea.out,k3.out⟩
            case measure=>simp [intOf];omega
          | false=>
            have e4:L.looks (k+1) 1={ X with views:=X.views++[(v,t,X.W.real)] }:=by rw [e3.out,hse];rfl
            replace e4:=hd_ e4;replace hse:=hd_ hse;go_upto_region 21 with (fail)
            have z1:∀ k,(Value.slice vo V.length vc).ownBlock=some k→k≠B.lb:=fun kk hkk e=>by
             have h7:=h3.out.r.vws.2 kk (by rw [h0.out];exact hkk)
             have h4:=h3.out.r.ob
             rw [el.out,← e,h7] at h4
             cases h4
            refine Z05 (fun c=>(Value.slice vo V.length vc).ownBlock=some c) (.q 0 (.q 1 (.q 2 (.q 3 (.q 4 (.q 5 (.q 6 (.q 7 (.q 8 (.q 9 (.q 10 (.l 11 (.l 12 (.l 13 (.l 14 (.q 15 (.q 16 (.cut (.l 17 .fin))))))))))))))))))) (by kernel_rfl) (by kernel_rfl) ?_
            intro w4 x1 z0
            have h4:=h3.out.grow z0
            have k4:=hd_ (k3.out.trans (.below z0))
            obtain⟨cs4,b4,C4⟩:=h4.cells
            rw [el.out] at b4
            have q2:=Z01 (F:=fun c=>(Value.slice vo V.length vc).ownBlock=some c) (b:=w4) (fun h=>z1 B.lb h rfl) (show w4.cell? ⟨B.lb,20,none⟩=some (.slice vo V.length vc) by rw [Z00 b4,C4.c20,h0.out])
            have u0:=Z01 (F:=fun c=>(Value.slice vo V.length vc).ownBlock=some c) (b:=w4) (fun h=>z1 B.lb h rfl) (show w4.cell? ⟨B.lb,0,none⟩=some (Z09 B.A.wb) by rw [Z00 b4,C4.c0,ea.out])
            have hR:=Z2n h4.wl
            rw [ea.out] at hR
            have b1:=h4.r.vws.1
            rw [h0.out,← hV.out] at b1
            replace h4:=hd_ h4;replace hR:=hd_ hR;replace b1:=hd_ b1;replace x1:=hd_ x1;replace z0:=hd_ z0;replace b4:=hd_ b4;replace C4:=hd_ C4;clear s1 l3;iterate 11 (refine Z0n rfl ?_;go_big_quiet_step (fail);refine wpQuiet_nil ?_)
            clear q2 u0
            -- the real time
            refine Z0j rfl (by kernel_rfl) ?_;intro K1 hK;go_simp
            refine hR.out.mono ?_
            rintro r wx ⟨rfl,rfl⟩
            refine hK _ _ (Chg.refl _ _) ?_
            clear hK K1 hR;refine Z0j rfl (by kernel_rfl) ?_;intro K1 hK;go_simp
            refine hK _ _ (Chg.refl _ _) ?_
            clear hK K1;refine Z0j rfl (by kernel_rfl) ?_;intro K1 hK;go_simp
            obtain⟨w5,o0⟩:∃ w5,w5=w4.alloc (.cells #[.int .i64 v, .int .i64 t, .int .i64 X.W.real] 158):=⟨_,rfl⟩
            have y0:w5.heap[w4.heap.size]?=some (.cells #[.int .i64 v, .int .i64 t, .int .i64 X.W.real] 158 (0,0)):=o0 ▸ Z0a _ _
            have l1:Chg (fun c=>(Value.slice vo V.length vc).ownBlock=some c) w4 w5:=o0 ▸ Z1a (Chg.refl _ _)
            have m0:Below w4.heap.size w4 w5:=o0 ▸ (Below.refl _ _).alloc (Nat.le_refl _) _
            have a2:=hd_ (b1.out.grow Zkz m0)
            have s5:w5.heap.size=w4.heap.size+1:=by rw [o0];exact World.size_alloc ..
            obtain⟨nc,a1⟩:∃ nc,nc=w4.heap.size:=⟨_,rfl⟩
            rw [← o0,← a1]
            rw [← a1] at y0
            replace y0:=hd_ y0;replace o0:=hd_ o0;replace a1:=hd_ a1;replace s5:=hd_ s5
            refine hK _ _ l1 ?_
            clear hK K1
            have f2:=hi.out
            refine Z0j rfl (by kernel_rfl) ?_;intro K1 hK
            refine Z6e _ (.tmp 159) (.tmp 168) 77 rfl 0 158 i0 (.agg #[.int .i64 0, .int .i64 0, .int .i64 0]) 3 24 Tryz.underlying77 f2 n2 o2 p2 rfl (by decide) (.slice vo V.length vc) V.length (Z1h Zkz V) rfl a2.out (.slice (some ⟨nc,0,none⟩) 1 1) 1 _ rfl (Z5y y0.out rfl) ?c1 (by unfold maxLen;omega) (by omega) (Nat.zero_le _) ?_
            case c1=>
             intro u hu
             simp only [List.mem_cons,List.not_mem_nil,or_false] at hu
             rcases hu with rfl | rfl | rfl<;>rfl
            intro v6 w6 g0 n1 t0
            have m1:Chg (fun c=>(Value.slice vo V.length vc).ownBlock=some c) w4 w6:=Z10 l1 n1 fun k hk=>.inl hk
            obtain⟨gg,r0,rfl,v0,m2⟩:=src_form g0 t0
            have x0:Chg (fun c=>ownk c=7) w4 w6:=m1.mono fun c hc hcc=>h4.out.r.vws.2 c (by rw [h0.out];exact hcc)
            obtain⟨cs6,b6,C6⟩:=h4.out.at4 (lab:=7) (by omega) x0
            rw [el.out] at b6
            have q6:w6.cell? ⟨B.lb,20,none⟩=some (.slice vo V.length vc):=by rw [Z00 b6,C6.c20,h0.out]
            have f6:=Z03 b6 20
            have l6:=Z04 b6
            obtain⟨own7,h7,k7⟩:=h4.out.viewNew (x:=(v,t,X.W.real)) (g:=gg) (cap:=r0) (w':=w6) m0 (by rw [← hV.out];exact g0) (by rw [h0.out];exact n1) (by rw [h0.out];exact v0) m2
            rw [← hV.out,el.out] at h7 k7
            replace h7:=hd_ h7
            have k8:=hd_ (k4.out.trans k7)
            clear g0 n1 t0 v0 x0 a2 m0 y0 b6 C6 k7;go_simp
            refine hK _ _ m1 ?_
            clear hK K1;refine Z0n rfl ?_;go_big_quiet_step (fail);refine wpQuiet_nil ?_;refine Z0n rfl ?_;go_big_quiet_step (fail);refine wpQuiet_nil ?_;refine Z0h Z1j ?_;refine Z0j rfl (by kernel_rfl) ?_;intro K1 hK;go_simp
            refine hK _ _ (Z06 (Chg.refl _ _) trivial) ?_
            clear hK K1;refine Z0c ?_
            have e5:L.looks (k+1) 1={ X with views:=V++[(v,t,X.W.real)] }:=by rw [e4.out,hV.out]
            replace e5:=hd_ e5;clear l1 m1;go_wp2
            go_roundw
            case rel=>exact⟨k+1,own7,⟨B.lb,Bk.A,Bk.fv,Bk.fr,Bk.sv, .slice (some ⟨gg,0,none⟩) (V.length+1) r0,Bk.cv⟩,by omega,by go_num,by rw [e5.out];exact h7.out,rfl,ea.out,k8.out⟩
            case measure=>simp [intOf];omega
  ·have j2:k=N:=by omega
   have o1:decide ((k:Int)+1≤(N:Int))=false:=decide_eq_false (by omega)
   have g1:LwO ownk w0 wr Bk (L.looks N 1):=by rw [← j0 j2];exact hK
   replace g1:=hd_ g1;replace kk:=hd_ kk;clear hK p0 e0 j0;go_wp2
   go_end0
   exact⟨rfl,ownk,Bk,g1.out,el.out,ea.out,kk.out⟩
end
end
section
open Go.RowKit
abbrev eB:ByteArray:=ByteArray.empty
theorem Zkb (w:World):Calls Tryz.prog 105 #[.string eB, .int .i64 18] w fun r w'=>r=.returned (.string eB)∧w=w':=by
 go_enter Tryz.func105,Tryz.ntmps105
 go_wp2
 go_ret
 exact⟨rfl,rfl⟩
structure LwT (own:Nat→Nat) (w0 w:World) (B:LwAt) (K:Nat) (L:Lw):Prop where
 o:LwO own w0 w B L
 f:WOk (7*K+8) L.W
 d:WOd (7*K+8) L.W
 i:LwI (7*K+8) (26000000*K) L
section
variable {own own':Nat→Nat} {w0 w wa w':World} {B B':LwAt} {L L':Lw} {K:Nat}
theorem Zku {L:Lw} {fn a:Int} (h:LwT own w0 w B K L) (hK:K≤8000) {W':Wl} {z:Int} (hs:L.W.step fn a 0 0 0 eB=(W',z)) (hn:W'.n=L.W.n) (hf:WOk (7*K+8+3) W') (hd:WOd (7*K+8+3) W') (ha:fn≠7)
  (ho:LwO own' w0 w' B' (L.step fn a 0 0 0 eB).1):LwT own' w0 w' B' (K+1) (L.step fn a 0 0 0 eB).1:=by
 have a0:Zl2 eB=eB:=rfl
 have e1:(L.W.step fn a 0 0 0 (Zl2 eB)).1=W':=by rw [a0,hs]
 have h7:=h.o.wl.n7
 have hi:=h.i.step h7 fn a 0 0 0 eB (by rw [e1];exact hn) (fun e=>absurd e ha) (C:=7*K+8+3) (by rw [e1];exact hf)
 have hc:Z6k fn≤7:=by
  unfold Z6k
  split
  ·omega
  ·split<;>omega
 refine⟨ho,?_,?_,hi.up (by omega) (by omega)⟩
 ·rw [Zlm,e1];exact hf.up (by omega)
 ·rw [Zlm,e1];exact hd.up (by omega)
theorem Zld (W:Wl) (fn a n o l:Int) (d:ByteArray) (h9:fn≠9):(W.step fn a n o l d).1.n=W.n:=by
 unfold Wl.step
 split
 ·rfl
 ·rw [if_neg (by simpa using h9)]
  split
  ·unfold Wl.mail
   split
   ·rfl
   ·split
    ·rfl
    ·dsimp only
     split
     ·split<;>rfl
     ·rw [n_hear];split<;>rfl
  ·split
   ·unfold Wl.one
    split
    ·rfl
    ·split
     ·unfold Wl.start;dsimp only;split<;>rfl
     ·split
      ·rfl
      ·split
       ·rfl
       ·split
        ·exact n_tick _ _
        ·rfl
   ·rfl
theorem Zl4 (h:LwT own w0 w B K L) (hK:K≤8000) (hq:(L.W.step 3 0 0 0 0 eB).1.calm=true) :
  Calls Tryz.prog 48 #[Z09 B.lb,Z8n 3 0 0 0 0 eB] w fun r w'=>∃ z,r=.returned (.int .i64 z)∧z=(L.step 3 0 0 0 0 eB).2∧∃ own' B',LwT own' w0 w' B' (K+1) (L.step 3 0 0 0 0 eB).1∧B'.lb=B.lb∧Keeps own own' w w':=by
 obtain⟨W0,m0⟩:∃ W0,W0=w.alloc (.cells (Z6i 3 0 0 0 0 eB) 83):=⟨_,rfl⟩
 have g1:Below w.heap.size w W0:=m0 ▸ (Below.refl _ _).alloc (Nat.le_refl _) _
 obtain⟨sb,h0⟩:∃ sb,sb=w.heap.size:=⟨_,rfl⟩
 have j0:W0.heap[sb]?=some (.cells (Z6i 3 0 0 0 0 eB) 83 (0,0)):=m0 ▸ h0 ▸ Z0a _ _
 have x5:W0.cell? ⟨sb,5,none⟩=some (.string eB):=Z00 j0 5
 have z5:=Z03 j0 5
 have lx:=Z04 j0
 obtain⟨W1,n0⟩:∃ W1,W1=W0.setCell ⟨sb,5,none⟩ (.string eB):=⟨_,rfl⟩
 have k0:W1.heap[sb]?=some (.cells (Z6i 3 0 0 0 0 eB) 83 (0,0)):=n0 ▸ Z0d j0
 have l0:Below w.heap.size w W1:=n0 ▸ Z0x g1 (by rw [h0];exact Nat.le_refl _) 5 _
 have h1:=h.o.grow l0
 have z1:Zl2 eB=eB:=rfl
 obtain⟨R,hR⟩:∃ R,R=L.W.step 3 0 0 0 0 eB:=⟨_,rfl⟩
 obtain⟨W2,z2⟩:=R
 have e0:L.W.step 3 0 0 0 0 eB=(W2,z2):=hR.symm
 have b1:L.step 3 0 0 0 0 eB=((({ L with W:=W2 }:Lw).note 3 0 0 0 z2 eB (L.W.node 0).isSome).looks L.W.n.toNat 1,z2):=by
  unfold Lw.step
  rw [z1,e0]
 have f0:W2.n=L.W.n:=by
  have:=congrArg (fun r:Wl × Int=>r.1.n) e0
  exact this.symm.trans (Zld L.W _ _ 0 0 0 eB (by decide))
 rw [e0] at hq
 replace hq:W2.calm=true:=hq
 have a0:=fun w1 (hw1:LwO own w0 w1 B L)=>Z6b hw1.wl h.f h.d (by omega) 3 0 0 0 0 eB (by decide)
 rw [e0] at a0
 rw [b1]
 have d0:=fun own' w' B' (ho:LwO own' w0 w' B' (L.step 3 0 0 0 0 eB).1) (hf:WOk (7*K+8+3) W2) (hd:WOd (7*K+8+3) W2)=>Zku h hK e0 f0 hf hd (by decide) ho
 rw [b1] at d0
 have i1:=h.i
 have h7:=h.o.wl.n7
 have h3:=h.o.wl.n3
 replace d0:=hd_ d0;replace a0:=hd_ a0;replace e0:=hd_ e0;replace hR:=hd_ hR;replace b1:=hd_ b1;replace f0:=hd_ f0;replace hq:=hd_ hq;replace h:=hd_ h;replace h1:=hd_ h1;replace i1:=hd_ i1;replace j0:=hd_ j0;replace k0:=hd_ k0;replace g1:=hd_ g1;replace l0:=hd_ l0
 go_enter Tryz.func48,Tryz.ntmps48
 go_upto_region 1 with (fail)
 rw [← m0,← h0]
 replace m0:=hd_ m0;replace h0:=hd_ h0;go_wp2_with fail
 refine (Zkb _).mono ?_
 rintro r wx ⟨rfl,rfl⟩;go_upto_region 2 with (fail)
 rw [← n0]
 replace n0:=hd_ n0;clear x5 z5 lx
 have y0:W1.cell? ⟨sb,0,none⟩=some (.int .i64 3):=Z00 k0.out 0
 have y1:W1.cell? ⟨sb,1,none⟩=some (.int .i64 0):=Z00 k0.out 1
 have ly:=Z04 k0.out
 go_upto_region 5 with (fail);clear y0 y1 ly
 refine Z05 (fun _=>False) (.q 0 (.q 1 (.q 2 (.q 3 (.q 4 (.q 5 (.q 6 (.q 7 (.q 8 (.q 9 (.q 10 (.q 11 (.q 12 (.q 13 (.q 14 (.q 15 (.q 16 (.q 17 (.q 18 (.cut (.l 19 (.q 20 (.q 21 (.q 22 .fin)))))))))))))))))))))))) (by kernel_rfl) (by kernel_rfl) ?_
 intro w2 p1 o0
 have h2:=h1.out.grow o0
 have e1:=Z02 k0.out o0
 have l1:=hd_ (l0.out.trans (o0.mono l0.out.size))
 have u1:=Z01 (F:=fun _=>False) (b:=w2) (fun h=>h) (show w2.cell? ⟨sb,1,none⟩=some (.int .i64 0) from Z00 e1 1)
 obtain⟨cs2,b2,C2⟩:=h2.cells
 have v0:=Z01 (F:=fun _=>False) (b:=w2) (fun h=>h) (show w2.cell? ⟨B.lb,0,none⟩=some (Z09 B.A.wb) from (Z00 b2 0).trans C2.c0)
 have v1:=Z01 (F:=fun _=>False) (b:=w2) (fun h=>h) (show w2.cell? ⟨B.lb,1,none⟩=some (.int .i64 L.W.n) from (Z00 b2 1).trans C2.c1)
 clear b2 C2;replace h2:=hd_ h2;replace e1:=hd_ e1;replace p1:=hd_ p1;replace o0:=hd_ o0;iterate 19 (refine Z0n rfl ?_;go_big_quiet_step (fail);refine wpQuiet_nil ?_)
 clear u1 v0 v1;refine Z0h Z1j ?_
 refine Zh0 rfl (Chg.refl _ _) (by kernel_rfl) ?_
 go_simp
 obtain⟨w3,z0⟩:∃ w3,w3=w2:=⟨_,rfl⟩
 have d1:Below w2.heap.size w2 w3:=z0 ▸ Below.refl _ _
 rw [← z0]
 replace z0:=hd_ z0
 have f1:=h2.out.grow d1
 have j1:=Z02 e1.out d1
 have m1:=hd_ (l1.out.trans (d1.mono l1.out.size))
 replace f1:=hd_ f1;replace j1:=hd_ j1;clear d1;iterate 3 (refine Z0n rfl ?_;go_big_quiet_step (fail);refine wpQuiet_nil ?_)
 refine Z0c ?_;go_upto_region 6 with (fail)
 refine Z05 (fun _=>False) (.q 0 (.q 1 (.q 2 (.q 3 (.q 4 (.cut (.l 5 (.q 6 .fin)))))))) (by kernel_rfl) (by kernel_rfl) ?_
 intro w4 q1 p0
 have h4:=f1.out.grow p0
 have b0:=Z02 j1.out p0
 have t1:=hd_ (m1.out.trans (p0.mono m1.out.size))
 obtain⟨cs4,b4,C4⟩:=h4.cells
 have v0:=Z01 (F:=fun _=>False) (b:=w4) (fun h=>h) (show w4.cell? ⟨B.lb,0,none⟩=some (Z09 B.A.wb) from (Z00 b4 0).trans C4.c0)
 have u0:=Z01 (F:=fun _=>False) (b:=w4) (fun h=>h) (show w4.cell? ⟨sb,0,none⟩=some (.int .i64 3) from Z00 b0 0)
 have u1:=Z01 (F:=fun _=>False) (b:=w4) (fun h=>h) (show w4.cell? ⟨sb,1,none⟩=some (.int .i64 0) from Z00 b0 1)
 have u2:=Z01 (F:=fun _=>False) (b:=w4) (fun h=>h) (show w4.cell? ⟨sb,2,none⟩=some (.int .i64 0) from Z00 b0 2)
 have u3:=Z01 (F:=fun _=>False) (b:=w4) (fun h=>h) (show w4.cell? ⟨sb,3,none⟩=some (.int .i64 0) from Z00 b0 3)
 have u4:=Z01 (F:=fun _=>False) (b:=w4) (fun h=>h) (show w4.cell? ⟨sb,4,none⟩=some (.int .i64 0) from Z00 b0 4)
 have u5:=Z01 (F:=fun _=>False) (b:=w4) (fun h=>h) (show w4.cell? ⟨sb,5,none⟩=some (.string eB) from Z00 b0 5)
 clear b4 C4
 have o1:=hd_ (a0.out w4 h4)
 replace h4:=hd_ h4;replace b0:=hd_ b0;replace q1:=hd_ q1;replace p0:=hd_ p0;clear a0;iterate 5 (refine Z0n rfl ?_;go_big_quiet_step (fail);refine wpQuiet_nil ?_)
 clear u0 u1 u2 u3 u4 u5 v0;refine Z0h Z1j ?_;refine Z0j rfl (by kernel_rfl) ?_;intro K1 n1;go_simp
 refine o1.out.mono ?_
 rintro r w5 ⟨z5,rfl,r1,own5,A5,i0,g0,q0,k5,e5,e5'⟩
 obtain rfl:z2=z5:=r1.symm
 clear r1
 refine n1 _ _ (Zko h4.out.wl i0 k5.size) ?_
 clear n1 K1 o1
 replace i0:WlO own5 w0 w5 A5 W2:=i0
 replace g0:WOk (7*K+8+3) W2:=g0
 replace q0:WOd (7*K+8+3) W2:=q0
 have h5:=h4.out.turnW i0 k5 e5 f0.out
 have s1:sb<w4.heap.size:=Z04 b0.out
 have osb:own sb=0:=h.out.o.wf sb (by rw [h0.out];exact Nat.le_refl _)
 have t0:w5.heap[sb]?=_:=(k5.keep sb s1 (by rw [osb];exact jw0)).2.trans b0.out
 have a2:=hd_ ((Keeps.below (own:=own) t1.out).trans k5.pub)
 replace i0:=hd_ i0;replace g0:=hd_ g0;replace q0:=hd_ q0;replace t0:=hd_ t0;clear k5 s1 osb;refine Z0n rfl ?_;go_big_quiet_step (fail);refine wpQuiet_nil ?_;refine Z0c ?_
 have x0:w5.cell? ⟨sb,0,none⟩=some (.int .i64 3):=Z00 t0.out 0
 have x1:w5.cell? ⟨sb,1,none⟩=some (.int .i64 0):=Z00 t0.out 1
 have lx:=Z04 t0.out
 have r0:({ L with W:=W2 }:Lw).note 3 0 0 0 z2 eB (L.W.node 0).isSome={ L with W:=W2 }:=rfl
 obtain⟨w6,s0⟩:∃ w6,w6=w5:=⟨_,rfl⟩
 have h6:LwO own5 w0 w6 { B with A:=A5 } { L with W:=W2 }:=by rw [s0];exact h5
 have c2:=hd_ (show Keeps own own5 w w6 by rw [s0];exact a2.out)
 replace h5:=hd_ h5
 have a1:LwI (7*K+8+7) (26000000*K) (({ L with W:=W2 }:Lw).note 3 0 0 0 z2 eB (L.W.node 0).isSome):=by
  refine ((i1.out.setW f0.out).note (by show W2.n≤7;rw [f0.out];exact h7) 3 0 0 0 z2 eB (L.W.node 0).isSome (fun e=>absurd e (by decide))).up ?_ (Nat.le_refl _)
  have hc:Z6k 3≤7:=by decide
  omega
 rw [r0] at a1
 have hL:=Zk9 h6 (by exact g0.out) (by omega) a1 (by omega) (by exact hq.out)
 rw [show ({ L with W:=W2 }:Lw).W.n=L.W.n from f0.out] at hL
 skip
 replace hL:=hd_ hL;replace h6:=hd_ h6;replace a1:=hd_ a1;go_upto_region 27 with (fail)
 rw [← s0]
 replace s0:=hd_ s0;clear x0 x1 lx;go_wp2_with fail
 refine hL.out.mono ?_
 rintro r w7 ⟨rfl,own7,B7,k1,e7,ea7,k7⟩
 have hT:=hd_ (d0.out own7 w7 B7 k1 g0.out q0.out)
 have d2:=hd_ (c2.out.trans k7)
 clear hL k1 k7;go_wp2
 go_ret
 exact⟨z2,rfl,rfl,own7,B7,hT.out,e7,d2.out⟩
theorem Zm0 {i:Nat} (h:LwT own w0 w B K L) (hK:K≤8000) (hi:1≤i) (hn:(i:Int)≤L.W.n) {s:Nd} (hs:(Z0i L.W i).s=some s) (hq:(L.W.step 6 i 0 0 0 eB).1.calm=true) :
  Calls Tryz.prog 48 #[Z09 B.lb,Z8n 6 i 0 0 0 eB] w fun r w'=>∃ z,r=.returned (.int .i64 z)∧z=(L.step 6 i 0 0 0 eB).2∧∃ own' B',LwT own' w0 w' B' (K+1) (L.step 6 i 0 0 0 eB).1∧B'.lb=B.lb∧Keeps own own' w w':=by
 obtain⟨W0,p0⟩:∃ W0,W0=w.alloc (.cells (Z6i 6 i 0 0 0 eB) 83):=⟨_,rfl⟩
 have j1:Below w.heap.size w W0:=p0 ▸ (Below.refl _ _).alloc (Nat.le_refl _) _
 obtain⟨sb,h0⟩:∃ sb,sb=w.heap.size:=⟨_,rfl⟩
 have j0:W0.heap[sb]?=some (.cells (Z6i 6 i 0 0 0 eB) 83 (0,0)):=p0 ▸ h0 ▸ Z0a _ _
 have x5:W0.cell? ⟨sb,5,none⟩=some (.string eB):=Z00 j0 5
 have z5:=Z03 j0 5
 have lx:=Z04 j0
 obtain⟨W1,q0⟩:∃ W1,W1=W0.setCell ⟨sb,5,none⟩ (.string eB):=⟨_,rfl⟩
 have k0:W1.heap[sb]?=some (.cells (Z6i 6 i 0 0 0 eB) 83 (0,0)):=q0 ▸ Z0d j0
 have l0:Below w.heap.size w W1:=q0 ▸ Z0x j1 (by rw [h0];exact Nat.le_refl _) 5 _
 have h1:=h.o.grow l0
 have c2:Zl2 eB=eB:=rfl
 obtain⟨R,hR⟩:∃ R,R=L.W.step 6 i 0 0 0 eB:=⟨_,rfl⟩
 obtain⟨W2,z2⟩:=R
 have e0:L.W.step 6 i 0 0 0 eB=(W2,z2):=hR.symm
 have n0:L.step 6 i 0 0 0 eB=((({ L with W:=W2 }:Lw).note 6 i 0 0 z2 eB (L.W.node i).isSome).looks L.W.n.toNat 1,z2):=by
  unfold Lw.step
  rw [c2,e0]
 have f0:W2.n=L.W.n:=by
  have:=congrArg (fun r:Wl × Int=>r.1.n) e0
  exact this.symm.trans (Zld L.W _ _ 0 0 0 eB (by decide))
 rw [e0] at hq
 replace hq:W2.calm=true:=hq
 have l1:L.W.node i=some s:=by rw [Z47 hi hn,hs]
 have d2:xV B.A L.W i=Z09 (B.A.nd i).b:=by unfold xV;rw [hs];rfl
 have g1:decide ((1:Int)≤(i:Int))=true:=decide_eq_true (by omega)
 have g2:decide ((i:Int)≤L.W.n)=true:=decide_eq_true hn
 have g3:((i:Int)<0)=False:=by simp
 rw [l1] at n0
 have a0:=fun w1 (hw1:LwO own w0 w1 B L)=>Z6b hw1.wl h.f h.d (by omega) 6 i 0 0 0 eB (by decide)
 rw [e0] at a0
 rw [n0]
 have d0:=fun own' w' B' (ho:LwO own' w0 w' B' (L.step 6 i 0 0 0 eB).1) (hf:WOk (7*K+8+3) W2) (hd:WOd (7*K+8+3) W2)=>Zku h hK e0 f0 hf hd (by decide) ho
 rw [n0] at d0
 have k1:=h.i
 have h7:=h.o.wl.n7
 have h3:=h.o.wl.n3
 replace d0:=hd_ d0;replace a0:=hd_ a0;replace e0:=hd_ e0;replace hR:=hd_ hR;replace n0:=hd_ n0;replace f0:=hd_ f0;replace hq:=hd_ hq;replace h:=hd_ h;replace h1:=hd_ h1;replace k1:=hd_ k1;replace j0:=hd_ j0;replace k0:=hd_ k0;replace j1:=hd_ j1;replace l0:=hd_ l0;replace l1:=hd_ l1;replace hs:=hd_ hs
 go_enter Tryz.func48,Tryz.ntmps48
 go_upto_region 1 with (fail)
 rw [← p0,← h0]
 replace p0:=hd_ p0;replace h0:=hd_ h0;go_wp2_with fail
 refine (Zkb _).mono ?_
 rintro r wx ⟨rfl,rfl⟩;go_upto_region 2 with (fail)
 rw [← q0]
 replace q0:=hd_ q0;clear x5 z5 lx
 have y0:W1.cell? ⟨sb,0,none⟩=some (.int .i64 6):=Z00 k0.out 0
 have y1:W1.cell? ⟨sb,1,none⟩=some (.int .i64 i):=Z00 k0.out 1
 have ly:=Z04 k0.out
 go_upto_region 5 with (fail);clear y0 y1 ly
 refine Z05 (fun _=>False) (.q 0 (.q 1 (.q 2 (.q 3 (.q 4 (.q 5 (.q 6 (.q 7 (.q 8 (.q 9 (.q 10 (.q 11 (.q 12 (.q 13 (.q 14 (.q 15 (.q 16 (.q 17 (.q 18 (.cut (.l 19 (.q 20 (.q 21 (.q 22 .fin)))))))))))))))))))))))) (by kernel_rfl) (by kernel_rfl) ?_
 intro w2 r1 r0
 have h2:=h1.out.grow r0
 have f1:=Z02 k0.out r0
 have o1:=hd_ (l0.out.trans (r0.mono l0.out.size))
 have u1:=Z01 (F:=fun _=>False) (b:=w2) (fun h=>h) (show w2.cell? ⟨sb,1,none⟩=some (.int .i64 i) from Z00 f1 1)
 obtain⟨cs2,b2,C2⟩:=h2.cells
 have v0:=Z01 (F:=fun _=>False) (b:=w2) (fun h=>h) (show w2.cell? ⟨B.lb,0,none⟩=some (Z09 B.A.wb) from (Z00 b2 0).trans C2.c0)
 have v1:=Z01 (F:=fun _=>False) (b:=w2) (fun h=>h) (show w2.cell? ⟨B.lb,1,none⟩=some (.int .i64 L.W.n) from (Z00 b2 1).trans C2.c1)
 clear b2 C2
 have o0:=Z1n h2.wl hi hn
 rw [d2] at o0
 replace o0:=hd_ o0;replace h2:=hd_ h2;replace f1:=hd_ f1;replace r1:=hd_ r1;replace r0:=hd_ r0;iterate 19 (refine Z0n rfl ?_;go_big_quiet_step (fail);refine wpQuiet_nil ?_)
 clear u1 v0 v1;refine Z0h Z1j ?_;refine Z0j rfl (by kernel_rfl) ?_;intro K1 m0;go_simp
 refine o0.out.mono ?_
 rintro r w3 ⟨rfl,s0⟩
 refine m0 _ _ (.of_below s0) ?_
 clear m0 K1 o0
 have i1:=h2.out.grow s0
 have m1:=Z02 f1.out s0
 have p1:=hd_ (o1.out.trans (s0.mono o1.out.size))
 replace i1:=hd_ i1;replace m1:=hd_ m1;clear s0;iterate 3 (refine Z0n rfl ?_;go_big_quiet_step (fail);refine wpQuiet_nil ?_)
 refine Z0c ?_;go_upto_region 6 with (fail)
 refine Z05 (fun _=>False) (.q 0 (.q 1 (.q 2 (.q 3 (.q 4 (.cut (.l 5 (.q 6 .fin)))))))) (by kernel_rfl) (by kernel_rfl) ?_
 intro w4 s1 t0
 have h4:=i1.out.grow t0
 have b0:=Z02 m1.out t0
 have a2:=hd_ (p1.out.trans (t0.mono p1.out.size))
 obtain⟨cs4,b4,C4⟩:=h4.cells
 have v0:=Z01 (F:=fun _=>False) (b:=w4) (fun h=>h) (show w4.cell? ⟨B.lb,0,none⟩=some (Z09 B.A.wb) from (Z00 b4 0).trans C4.c0)
 have u0:=Z01 (F:=fun _=>False) (b:=w4) (fun h=>h) (show w4.cell? ⟨sb,0,none⟩=some (.int .i64 6) from Z00 b0 0)
 have u1:=Z01 (F:=fun _=>False) (b:=w4) (fun h=>h) (show w4.cell? ⟨sb,1,none⟩=some (.int .i64 i) from Z00 b0 1)
 have u2:=Z01 (F:=fun _=>False) (b:=w4) (fun h=>h) (show w4.cell? ⟨sb,2,none⟩=some (.int .i64 0) from Z00 b0 2)
 have u3:=Z01 (F:=fun _=>False) (b:=w4) (fun h=>h) (show w4.cell? ⟨sb,3,none⟩=some (.int .i64 0) from Z00 b0 3)
 have u4:=Z01 (F:=fun _=>False) (b:=w4) (fun h=>h) (show w4.cell? ⟨sb,4,none⟩=some (.int .i64 0) from Z00 b0 4)
 have u5:=Z01 (F:=fun _=>False) (b:=w4) (fun h=>h) (show w4.cell? ⟨sb,5,none⟩=some (.string eB) from Z00 b0 5)
 clear b4 C4
 have q1:=hd_ (a0.out w4 h4)
 replace h4:=hd_ h4;replace b0:=hd_ b0;replace s1:=hd_ s1;replace t0:=hd_ t0;clear a0;iterate 5 (refine Z0n rfl ?_;go_big_quiet_step (fail);refine wpQuiet_nil ?_)
 clear u0 u1 u2 u3 u4 u5 v0;refine Z0h Z1j ?_;refine Z0j rfl (by kernel_rfl) ?_;intro K1 m0;go_simp
 refine q1.out.mono ?_
 rintro r w5 ⟨z5,rfl,t1,own5,A5,i0,g0,z0,k5,e5,e5'⟩
 obtain rfl:z2=z5:=t1.symm
 clear t1
 refine m0 _ _ (Zko h4.out.wl i0 k5.size) ?_
 clear m0 K1 q1
 replace i0:WlO own5 w0 w5 A5 W2:=i0
 replace g0:WOk (7*K+8+3) W2:=g0
 replace z0:WOd (7*K+8+3) W2:=z0
 have h5:=h4.out.turnW i0 k5 e5 f0.out
 have z1:sb<w4.heap.size:=Z04 b0.out
 have osb:own sb=0:=h.out.o.wf sb (by rw [h0.out];exact Nat.le_refl _)
 have d1:w5.heap[sb]?=_:=(k5.keep sb z1 (by rw [osb];exact jw0)).2.trans b0.out
 have e2:=hd_ ((Keeps.below (own:=own) a2.out).trans k5.pub)
 replace i0:=hd_ i0;replace g0:=hd_ g0;replace z0:=hd_ z0;replace d1:=hd_ d1;clear k5 z1 osb;refine Z0n rfl ?_;go_big_quiet_step (fail);refine wpQuiet_nil ?_;refine Z0c ?_
 have x0:w5.cell? ⟨sb,0,none⟩=some (.int .i64 6):=Z00 d1.out 0
 have x1:w5.cell? ⟨sb,1,none⟩=some (.int .i64 i):=Z00 d1.out 1
 have lx:=Z04 d1.out
 have a1:({ L with W:=W2 }:Lw).note 6 i 0 0 z2 eB true={ L with W:=W2 }:=rfl
 obtain⟨w6,b1⟩:∃ w6,w6=w5:=⟨_,rfl⟩
 have h6:LwO own5 w0 w6 { B with A:=A5 } { L with W:=W2 }:=by rw [b1];exact h5
 have f2:=hd_ (show Keeps own own5 w w6 by rw [b1];exact e2.out)
 replace h5:=hd_ h5
 have e1:LwI (7*K+8+7) (26000000*K) (({ L with W:=W2 }:Lw).note 6 i 0 0 z2 eB true):=by
  refine ((k1.out.setW f0.out).note (by show W2.n≤7;rw [f0.out];exact h7) 6 i 0 0 z2 eB true (fun e=>absurd e (by decide))).up ?_ (Nat.le_refl _)
  have hc:Z6k 6≤7:=by decide
  omega
 rw [a1] at e1
 have hL:=Zk9 h6 (by exact g0.out) (by omega) e1 (by omega) (by exact hq.out)
 rw [show ({ L with W:=W2 }:Lw).W.n=L.W.n from f0.out] at hL
 skip
 replace hL:=hd_ hL;replace h6:=hd_ h6;replace e1:=hd_ e1;go_upto_region 27 with (fail)
 rw [← b1]
 replace b1:=hd_ b1;clear x0 x1 lx;go_wp2_with fail
 refine hL.out.mono ?_
 rintro r w7 ⟨rfl,own7,B7,n1,e7,ea7,k7⟩
 have hT:=hd_ (d0.out own7 w7 B7 n1 g0.out z0.out)
 have i2:=hd_ (f2.out.trans k7)
 clear hL n1 k7;go_wp2
 go_ret
 exact⟨z2,rfl,rfl,own7,B7,hT.out,e7,i2.out⟩
theorem Zl0 {i:Nat} (h:LwT own w0 w B K L) (hK:K≤8000) (hi:1≤i) (hn:(i:Int)≤L.W.n) {s:Nd} (hs:(Z0i L.W i).s=some s) (hq:(L.W.step 2 i 0 0 0 eB).1.calm=true) :
  Calls Tryz.prog 48 #[Z09 B.lb,Z8n 2 i 0 0 0 eB] w fun r w'=>∃ z,r=.returned (.int .i64 z)∧z=(L.step 2 i 0 0 0 eB).2∧∃ own' B',LwT own' w0 w' B' (K+1) (L.step 2 i 0 0 0 eB).1∧B'.lb=B.lb∧Keeps own own' w w':=by
 obtain⟨W0,q0⟩:∃ W0,W0=w.alloc (.cells (Z6i 2 i 0 0 0 eB) 83):=⟨_,rfl⟩
 have k1:Below w.heap.size w W0:=q0 ▸ (Below.refl _ _).alloc (Nat.le_refl _) _
 obtain⟨sb,i0⟩:∃ sb,sb=w.heap.size:=⟨_,rfl⟩
 have k0:W0.heap[sb]?=some (.cells (Z6i 2 i 0 0 0 eB) 83 (0,0)):=q0 ▸ i0 ▸ Z0a _ _
 have x5:W0.cell? ⟨sb,5,none⟩=some (.string eB):=Z00 k0 5
 have z5:=Z03 k0 5
 have lx:=Z04 k0
 obtain⟨W1,r0⟩:∃ W1,W1=W0.setCell ⟨sb,5,none⟩ (.string eB):=⟨_,rfl⟩
 have l0:W1.heap[sb]?=some (.cells (Z6i 2 i 0 0 0 eB) 83 (0,0)):=r0 ▸ Z0d k0
 have n0:Below w.heap.size w W1:=r0 ▸ Z0x k1 (by rw [i0];exact Nat.le_refl _) 5 _
 have h1:=h.o.grow n0
 have j2:Zl2 eB=eB:=rfl
 obtain⟨R,hR⟩:∃ R,R=L.W.step 2 i 0 0 0 eB:=⟨_,rfl⟩
 obtain⟨W2,z2⟩:=R
 have f0:L.W.step 2 i 0 0 0 eB=(W2,z2):=hR.symm
 have o0:L.step 2 i 0 0 0 eB=((({ L with W:=W2 }:Lw).note 2 i 0 0 z2 eB (L.W.node i).isSome).looks L.W.n.toNat 1,z2):=by
  unfold Lw.step
  rw [j2,f0]
 have g0:W2.n=L.W.n:=by
  have:=congrArg (fun r:Wl × Int=>r.1.n) f0
  exact this.symm.trans (Zld L.W _ _ 0 0 0 eB (by decide))
 rw [f0] at hq
 replace hq:W2.calm=true:=hq
 have n1:L.W.node i=some s:=by rw [Z47 hi hn,hs]
 have k2:xV B.A L.W i=Z09 (B.A.nd i).b:=by unfold xV;rw [hs];rfl
 have g1:decide ((1:Int)≤(i:Int))=true:=decide_eq_true (by omega)
 have g2:decide ((i:Int)≤L.W.n)=true:=decide_eq_true hn
 have g3:((i:Int)<0)=False:=by simp
 rw [n1] at o0
 have a0:=fun w1 (hw1:LwO own w0 w1 B L)=>Z6b hw1.wl h.f h.d (by omega) 2 i 0 0 0 eB (by decide)
 rw [f0] at a0
 rw [o0]
 have d0:=fun own' w' B' (ho:LwO own' w0 w' B' (L.step 2 i 0 0 0 eB).1) (hf:WOk (7*K+8+3) W2) (hd:WOd (7*K+8+3) W2)=>Zku h hK f0 g0 hf hd (by decide) ho
 rw [o0] at d0
 have m1:=h.i
 have h7:=h.o.wl.n7
 have h3:=h.o.wl.n3
 replace d0:=hd_ d0;replace a0:=hd_ a0;replace f0:=hd_ f0;replace hR:=hd_ hR;replace o0:=hd_ o0;replace g0:=hd_ g0;replace hq:=hd_ hq;replace h:=hd_ h;replace h1:=hd_ h1;replace m1:=hd_ m1;replace k0:=hd_ k0;replace l0:=hd_ l0;replace k1:=hd_ k1;replace n0:=hd_ n0;replace n1:=hd_ n1;replace hs:=hd_ hs
 go_enter Tryz.func48,Tryz.ntmps48
 go_upto_region 1 with (fail)
 rw [← q0,← i0]
 replace q0:=hd_ q0;replace i0:=hd_ i0;go_wp2_with fail
 refine (Zkb _).mono ?_
 rintro r wx ⟨rfl,rfl⟩;go_upto_region 2 with (fail)
 rw [← r0]
 replace r0:=hd_ r0;clear x5 z5 lx
 have y0:W1.cell? ⟨sb,0,none⟩=some (.int .i64 2):=Z00 l0.out 0
 have y1:W1.cell? ⟨sb,1,none⟩=some (.int .i64 i):=Z00 l0.out 1
 have ly:=Z04 l0.out
 go_upto_region 5 with (fail);clear y0 y1 ly
 refine Z05 (fun _=>False) (.q 0 (.q 1 (.q 2 (.q 3 (.q 4 (.q 5 (.q 6 (.q 7 (.q 8 (.q 9 (.q 10 (.q 11 (.q 12 (.q 13 (.q 14 (.q 15 (.q 16 (.q 17 (.q 18 (.cut (.l 19 (.q 20 (.q 21 (.q 22 .fin)))))))))))))))))))))))) (by kernel_rfl) (by kernel_rfl) ?_
 intro w2 a2 s0
 have h2:=h1.out.grow s0
 have i1:=Z02 l0.out s0
 have s1:=hd_ (n0.out.trans (s0.mono n0.out.size))
 have u1:=Z01 (F:=fun _=>False) (b:=w2) (fun h=>h) (show w2.cell? ⟨sb,1,none⟩=some (.int .i64 i) from Z00 i1 1)
 obtain⟨cs2,b2,C2⟩:=h2.cells
 have v0:=Z01 (F:=fun _=>False) (b:=w2) (fun h=>h) (show w2.cell? ⟨B.lb,0,none⟩=some (Z09 B.A.wb) from (Z00 b2 0).trans C2.c0)
 have v1:=Z01 (F:=fun _=>False) (b:=w2) (fun h=>h) (show w2.cell? ⟨B.lb,1,none⟩=some (.int .i64 L.W.n) from (Z00 b2 1).trans C2.c1)
 clear b2 C2
 have p0:=Z1n h2.wl hi hn
 rw [k2] at p0
 replace p0:=hd_ p0;replace h2:=hd_ h2;replace i1:=hd_ i1;replace a2:=hd_ a2;replace s0:=hd_ s0;iterate 19 (refine Z0n rfl ?_;go_big_quiet_step (fail);refine wpQuiet_nil ?_)
 clear u1 v0 v1;refine Z0h Z1j ?_;refine Z0j rfl (by kernel_rfl) ?_;intro K1 e0;go_simp
 refine p0.out.mono ?_
 rintro r w3 ⟨rfl,t0⟩
 refine e0 _ _ (.of_below t0) ?_
 clear e0 K1 p0
 have j1:=h2.out.grow t0
 have p1:=Z02 i1.out t0
 have t1:=hd_ (s1.out.trans (t0.mono s1.out.size))
 replace j1:=hd_ j1;replace p1:=hd_ p1;clear t0;iterate 3 (refine Z0n rfl ?_;go_big_quiet_step (fail);refine wpQuiet_nil ?_)
 refine Z0c ?_;go_upto_region 6 with (fail)
 refine Z05 (fun _=>False) (.q 0 (.q 1 (.q 2 (.q 3 (.q 4 (.cut (.l 5 (.q 6 .fin)))))))) (by kernel_rfl) (by kernel_rfl) ?_
 intro w4 c2 z0
 have h4:=j1.out.grow z0
 have b0:=Z02 p1.out z0
 have i2:=hd_ (t1.out.trans (z0.mono t1.out.size))
 obtain⟨cs4,b4,C4⟩:=h4.cells
 have v0:=Z01 (F:=fun _=>False) (b:=w4) (fun h=>h) (show w4.cell? ⟨B.lb,0,none⟩=some (Z09 B.A.wb) from (Z00 b4 0).trans C4.c0)
 have u0:=Z01 (F:=fun _=>False) (b:=w4) (fun h=>h) (show w4.cell? ⟨sb,0,none⟩=some (.int .i64 2) from Z00 b0 0)
 have u1:=Z01 (F:=fun _=>False) (b:=w4) (fun h=>h) (show w4.cell? ⟨sb,1,none⟩=some (.int .i64 i) from Z00 b0 1)
 have u2:=Z01 (F:=fun _=>False) (b:=w4) (fun h=>h) (show w4.cell? ⟨sb,2,none⟩=some (.int .i64 0) from Z00 b0 2)
 have u3:=Z01 (F:=fun _=>False) (b:=w4) (fun h=>h) (show w4.cell? ⟨sb,3,none⟩=some (.int .i64 0) from Z00 b0 3)
 have u4:=Z01 (F:=fun _=>False) (b:=w4) (fun h=>h) (show w4.cell? ⟨sb,4,none⟩=some (.int .i64 0) from Z00 b0 4)
 have u5:=Z01 (F:=fun _=>False) (b:=w4) (fun h=>h) (show w4.cell? ⟨sb,5,none⟩=some (.string eB) from Z00 b0 5)
 clear b4 C4
 have z1:=hd_ (a0.out w4 h4)
 replace h4:=hd_ h4;replace b0:=hd_ b0;replace c2:=hd_ c2;replace z0:=hd_ z0;clear a0;iterate 5 (refine Z0n rfl ?_;go_big_quiet_step (fail);refine wpQuiet_nil ?_)
 clear u0 u1 u2 u3 u4 u5 v0;refine Z0h Z1j ?_;refine Z0j rfl (by kernel_rfl) ?_;intro K1 e0;go_simp
 refine z1.out.mono ?_
 rintro r w5 ⟨z5,rfl,e2,own5,A5,j0,h0,b1,k5,e5,e5'⟩
 obtain rfl:z2=z5:=e2.symm
 clear e2
 refine e0 _ _ (Zko h4.out.wl j0 k5.size) ?_
 clear e0 K1 z1
 replace j0:WlO own5 w0 w5 A5 W2:=j0
 replace h0:WOk (7*K+8+3) W2:=h0
 replace b1:WOd (7*K+8+3) W2:=b1
 have h5:=h4.out.turnW j0 k5 e5 g0.out
 have f2:sb<w4.heap.size:=Z04 b0.out
 have osb:own sb=0:=h.out.o.wf sb (by rw [i0.out];exact Nat.le_refl _)
 have m0:w5.heap[sb]?=_:=(k5.keep sb f2 (by rw [osb];exact jw0)).2.trans b0.out
 have m2:=hd_ ((Keeps.below (own:=own) i2.out).trans k5.pub)
 replace j0:=hd_ j0;replace h0:=hd_ h0;replace b1:=hd_ b1;replace m0:=hd_ m0;clear k5 f2 osb;refine Z0n rfl ?_;go_big_quiet_step (fail);refine wpQuiet_nil ?_;refine Z0c ?_
 have x0:w5.cell? ⟨sb,0,none⟩=some (.int .i64 2):=Z00 m0.out 0
 have x1:w5.cell? ⟨sb,1,none⟩=some (.int .i64 i):=Z00 m0.out 1
 have lx:=Z04 m0.out
 replace h5:=hd_ h5;go_upto_region 15 with (fail)
 refine Z05 (fun _=>False) (.q 0 (.q 1 (.q 2 (.q 3 (.q 4 (.q 5 (.cut (.l 6 .fin)))))))) (by kernel_rfl) (by kernel_rfl) ?_
 intro w8 d2 a1
 have h8:=h5.out.grow a1
 have p2:=hd_ (m2.out.trans (.below a1))
 have v1:=Z01 (F:=fun _=>False) (b:=w8) (fun h=>h) (show w8.cell? ⟨sb,1,none⟩=some (.int .i64 i) from Z00 (Z02 m0.out a1) 1)
 obtain⟨cs5,b5,C5⟩:=h8.cells
 have q1:w8.cell? ⟨B.lb,38+i,none⟩=some (.int .i64 (L.slack.getD i 0)):=(Z00 b5 _).trans (C5.slack i (by omega))
 obtain⟨sk,o1⟩:∃ sk,sk=L.slack.getD i 0:=⟨_,rfl⟩
 rw [← o1] at q1
 have r2:w8.frozen? ⟨B.lb,38+i,none⟩=false:=Z03 b5 _
 have q2:B.lb<w8.heap.size:=Z04 b5
 obtain⟨l1,l2,l3,l4,l5⟩:=h8.r.len
 obtain⟨h6,k6⟩:=h8.set4 (o:=38+i) (v:=.int .i64 0) { L with W:=W2,slack:=L.slack.set i 0 } rfl rfl rfl rfl rfl ⟨l1,l2,l3,l4,by show (L.slack.set _ _).length=8;rw [List.length_set];exact l5⟩ (fun cs h=>h.setSlack (by omega) l5 _)
 obtain⟨w6,e1⟩:∃ w6,w6=w8.setCell ⟨B.lb,38+i,none⟩ (.int .i64 0):=⟨_,rfl⟩
 have h6:LwO own5 w0 w6 { B with A:=A5 } { L with W:=W2,slack:=L.slack.set i 0 }:=by rw [e1];exact h6
 have k6:Keeps own5 own5 w8 w6:=by rw [e1];exact k6
 have n2:=hd_ (p2.out.trans k6)
 clear b5 C5 l1 l2 l3 l4 l5 k6 x0 x1 lx;replace o1:=hd_ o1;replace h8:=hd_ h8;replace h6:=hd_ h6;replace d2:=hd_ d2;replace a1:=hd_ a1;iterate 6 (refine Z0n rfl ?_;go_big_quiet_step (fail);refine wpQuiet_nil ?_)
 clear v1;refine Z0h Z1j ?_;refine Z0j rfl (by kernel_rfl) ?_;intro K1 e0;go_simp
 refine e0 _ _ (Z06 (Chg.refl _ _) trivial) ?_
 clear e0 K1;refine Z0c ?_
 rw [← e1]
 replace e1:=hd_ e1
 have h6:=h6.out
 have d1:({ L with W:=W2 }:Lw).note 2 i 0 0 z2 eB true={ L with W:=W2,slack:=L.slack.set i 0 }:=rfl
 have f1:LwI (7*K+8+7) (26000000*K) (({ L with W:=W2 }:Lw).note 2 i 0 0 z2 eB true):=by
  refine ((m1.out.setW g0.out).note (by show W2.n≤7;rw [g0.out];exact h7) 2 i 0 0 z2 eB true (fun e=>absurd e (by decide))).up ?_ (Nat.le_refl _)
  have hc:Z6k 2≤7:=by decide
  omega
 rw [d1] at f1
 have hL:=Zk9 h6 (by exact h0.out) (by omega) f1 (by omega) (by exact hq.out)
 rw [show ({ L with W:=W2,slack:=L.slack.set i 0 }:Lw).W.n=L.W.n from g0.out] at hL
 skip
 replace hL:=hd_ hL;replace h6:=hd_ h6;replace f1:=hd_ f1;clear q1 r2 q2;go_wp2_with fail
 refine hL.out.mono ?_
 rintro r w7 ⟨rfl,own7,B7,r1,e7,ea7,k7⟩
 have hT:=hd_ (d0.out own7 w7 B7 r1 h0.out b1.out)
 have o2:=hd_ (n2.out.trans k7)
 clear hL r1 k7;go_wp2
 go_ret
 exact⟨z2,rfl,rfl,own7,B7,hT.out,e7,o2.out⟩
theorem Zl1 {i:Nat} (h:LwT own w0 w B K L) (hK:K≤8000) (hi:1≤i) (hn:(i:Int)≤L.W.n) (hs:(Z0i L.W i).s=none) (hq:(L.W.step 2 i 0 0 0 eB).1.calm=true) :
  Calls Tryz.prog 48 #[Z09 B.lb,Z8n 2 i 0 0 0 eB] w fun r w'=>∃ z,r=.returned (.int .i64 z)∧z=(L.step 2 i 0 0 0 eB).2∧∃ own' B',LwT own' w0 w' B' (K+1) (L.step 2 i 0 0 0 eB).1∧B'.lb=B.lb∧Keeps own own' w w':=by
 obtain⟨W0,p0⟩:∃ W0,W0=w.alloc (.cells (Z6i 2 i 0 0 0 eB) 83):=⟨_,rfl⟩
 have j1:Below w.heap.size w W0:=p0 ▸ (Below.refl _ _).alloc (Nat.le_refl _) _
 obtain⟨sb,h0⟩:∃ sb,sb=w.heap.size:=⟨_,rfl⟩
 have j0:W0.heap[sb]?=some (.cells (Z6i 2 i 0 0 0 eB) 83 (0,0)):=p0 ▸ h0 ▸ Z0a _ _
 have x5:W0.cell? ⟨sb,5,none⟩=some (.string eB):=Z00 j0 5
 have z5:=Z03 j0 5
 have lx:=Z04 j0
 obtain⟨W1,q0⟩:∃ W1,W1=W0.setCell ⟨sb,5,none⟩ (.string eB):=⟨_,rfl⟩
 have k0:W1.heap[sb]?=some (.cells (Z6i 2 i 0 0 0 eB) 83 (0,0)):=q0 ▸ Z0d j0
 have l0:Below w.heap.size w W1:=q0 ▸ Z0x j1 (by rw [h0];exact Nat.le_refl _) 5 _
 have h1:=h.o.grow l0
 have c2:Zl2 eB=eB:=rfl
 obtain⟨R,hR⟩:∃ R,R=L.W.step 2 i 0 0 0 eB:=⟨_,rfl⟩
 obtain⟨W2,z2⟩:=R
 have e0:L.W.step 2 i 0 0 0 eB=(W2,z2):=hR.symm
 have n0:L.step 2 i 0 0 0 eB=((({ L with W:=W2 }:Lw).note 2 i 0 0 z2 eB (L.W.node i).isSome).looks L.W.n.toNat 1,z2):=by
  unfold Lw.step
  rw [c2,e0]
 have f0:W2.n=L.W.n:=by
  have:=congrArg (fun r:Wl × Int=>r.1.n) e0
  exact this.symm.trans (Zld L.W _ _ 0 0 0 eB (by decide))
 rw [e0] at hq
 replace hq:W2.calm=true:=hq
 have l1:L.W.node i=none:=by rw [Z47 hi hn,hs]
 have d2:xV B.A L.W i=.pointer none:=by unfold xV;rw [hs];rfl
 have g1:decide ((1:Int)≤(i:Int))=true:=decide_eq_true (by omega)
 have g2:decide ((i:Int)≤L.W.n)=true:=decide_eq_true hn
 have g3:((i:Int)<0)=False:=by simp
 rw [l1] at n0
 have a0:=fun w1 (hw1:LwO own w0 w1 B L)=>Z6b hw1.wl h.f h.d (by omega) 2 i 0 0 0 eB (by decide)
 rw [e0] at a0
 rw [n0]
 have d0:=fun own' w' B' (ho:LwO own' w0 w' B' (L.step 2 i 0 0 0 eB).1) (hf:WOk (7*K+8+3) W2) (hd:WOd (7*K+8+3) W2)=>Zku h hK e0 f0 hf hd (by decide) ho
 rw [n0] at d0
 have k1:=h.i
 have h7:=h.o.wl.n7
 have h3:=h.o.wl.n3
 replace d0:=hd_ d0;replace a0:=hd_ a0;replace e0:=hd_ e0;replace hR:=hd_ hR;replace n0:=hd_ n0;replace f0:=hd_ f0;replace hq:=hd_ hq;replace h:=hd_ h;replace h1:=hd_ h1;replace k1:=hd_ k1;replace j0:=hd_ j0;replace k0:=hd_ k0;replace j1:=hd_ j1;replace l0:=hd_ l0;replace l1:=hd_ l1;replace hs:=hd_ hs
 go_enter Tryz.func48,Tryz.ntmps48
 go_upto_region 1 with (fail)
 rw [← p0,← h0]
 replace p0:=hd_ p0;replace h0:=hd_ h0;go_wp2_with fail
 refine (Zkb _).mono ?_
 rintro r wx ⟨rfl,rfl⟩;go_upto_region 2 with (fail)
 rw [← q0]
 replace q0:=hd_ q0;clear x5 z5 lx
 have y0:W1.cell? ⟨sb,0,none⟩=some (.int .i64 2):=Z00 k0.out 0
 have y1:W1.cell? ⟨sb,1,none⟩=some (.int .i64 i):=Z00 k0.out 1
 have ly:=Z04 k0.out
 go_upto_region 5 with (fail);clear y0 y1 ly
 refine Z05 (fun _=>False) (.q 0 (.q 1 (.q 2 (.q 3 (.q 4 (.q 5 (.q 6 (.q 7 (.q 8 (.q 9 (.q 10 (.q 11 (.q 12 (.q 13 (.q 14 (.q 15 (.q 16 (.q 17 (.q 18 (.cut (.l 19 (.q 20 (.q 21 (.q 22 .fin)))))))))))))))))))))))) (by kernel_rfl) (by kernel_rfl) ?_
 intro w2 r1 r0
 have h2:=h1.out.grow r0
 have f1:=Z02 k0.out r0
 have o1:=hd_ (l0.out.trans (r0.mono l0.out.size))
 have u1:=Z01 (F:=fun _=>False) (b:=w2) (fun h=>h) (show w2.cell? ⟨sb,1,none⟩=some (.int .i64 i) from Z00 f1 1)
 obtain⟨cs2,b2,C2⟩:=h2.cells
 have v0:=Z01 (F:=fun _=>False) (b:=w2) (fun h=>h) (show w2.cell? ⟨B.lb,0,none⟩=some (Z09 B.A.wb) from (Z00 b2 0).trans C2.c0)
 have v1:=Z01 (F:=fun _=>False) (b:=w2) (fun h=>h) (show w2.cell? ⟨B.lb,1,none⟩=some (.int .i64 L.W.n) from (Z00 b2 1).trans C2.c1)
 clear b2 C2
 have o0:=Z1n h2.wl hi hn
 rw [d2] at o0
 replace o0:=hd_ o0;replace h2:=hd_ h2;replace f1:=hd_ f1;replace r1:=hd_ r1;replace r0:=hd_ r0;iterate 19 (refine Z0n rfl ?_;go_big_quiet_step (fail);refine wpQuiet_nil ?_)
 clear u1 v0 v1;refine Z0h Z1j ?_;refine Z0j rfl (by kernel_rfl) ?_;intro K1 m0;go_simp
 refine o0.out.mono ?_
 rintro r w3 ⟨rfl,s0⟩
 refine m0 _ _ (.of_below s0) ?_
 clear m0 K1 o0
 have i1:=h2.out.grow s0
 have m1:=Z02 f1.out s0
 have p1:=hd_ (o1.out.trans (s0.mono o1.out.size))
 replace i1:=hd_ i1;replace m1:=hd_ m1;clear s0;iterate 3 (refine Z0n rfl ?_;go_big_quiet_step (fail);refine wpQuiet_nil ?_)
 refine Z0c ?_;go_upto_region 6 with (fail)
 refine Z05 (fun _=>False) (.q 0 (.q 1 (.q 2 (.q 3 (.q 4 (.cut (.l 5 (.q 6 .fin)))))))) (by kernel_rfl) (by kernel_rfl) ?_
 intro w4 s1 t0
 have h4:=i1.out.grow t0
 have b0:=Z02 m1.out t0
 have a2:=hd_ (p1.out.trans (t0.mono p1.out.size))
 obtain⟨cs4,b4,C4⟩:=h4.cells
 have v0:=Z01 (F:=fun _=>False) (b:=w4) (fun h=>h) (show w4.cell? ⟨B.lb,0,none⟩=some (Z09 B.A.wb) from (Z00 b4 0).trans C4.c0)
 have u0:=Z01 (F:=fun _=>False) (b:=w4) (fun h=>h) (show w4.cell? ⟨sb,0,none⟩=some (.int .i64 2) from Z00 b0 0)
 have u1:=Z01 (F:=fun _=>False) (b:=w4) (fun h=>h) (show w4.cell? ⟨sb,1,none⟩=some (.int .i64 i) from Z00 b0 1)
 have u2:=Z01 (F:=fun _=>False) (b:=w4) (fun h=>h) (show w4.cell? ⟨sb,2,none⟩=some (.int .i64 0) from Z00 b0 2)
 have u3:=Z01 (F:=fun _=>False) (b:=w4) (fun h=>h) (show w4.cell? ⟨sb,3,none⟩=some (.int .i64 0) from Z00 b0 3)
 have u4:=Z01 (F:=fun _=>False) (b:=w4) (fun h=>h) (show w4.cell? ⟨sb,4,none⟩=some (.int .i64 0) from Z00 b0 4)
 have u5:=Z01 (F:=fun _=>False) (b:=w4) (fun h=>h) (show w4.cell? ⟨sb,5,none⟩=some (.string eB) from Z00 b0 5)
 clear b4 C4
 have q1:=hd_ (a0.out w4 h4)
 replace h4:=hd_ h4;replace b0:=hd_ b0;replace s1:=hd_ s1;replace t0:=hd_ t0;clear a0;iterate 5 (refine Z0n rfl ?_;go_big_quiet_step (fail);refine wpQuiet_nil ?_)
 clear u0 u1 u2 u3 u4 u5 v0;refine Z0h Z1j ?_;refine Z0j rfl (by kernel_rfl) ?_;intro K1 m0;go_simp
 refine q1.out.mono ?_
 rintro r w5 ⟨z5,rfl,t1,own5,A5,i0,g0,z0,k5,e5,e5'⟩
 obtain rfl:z2=z5:=t1.symm
 clear t1
 refine m0 _ _ (Zko h4.out.wl i0 k5.size) ?_
 clear m0 K1 q1
 replace i0:WlO own5 w0 w5 A5 W2:=i0
 replace g0:WOk (7*K+8+3) W2:=g0
 replace z0:WOd (7*K+8+3) W2:=z0
 have h5:=h4.out.turnW i0 k5 e5 f0.out
 have z1:sb<w4.heap.size:=Z04 b0.out
 have osb:own sb=0:=h.out.o.wf sb (by rw [h0.out];exact Nat.le_refl _)
 have d1:w5.heap[sb]?=_:=(k5.keep sb z1 (by rw [osb];exact jw0)).2.trans b0.out
 have e2:=hd_ ((Keeps.below (own:=own) a2.out).trans k5.pub)
 replace i0:=hd_ i0;replace g0:=hd_ g0;replace z0:=hd_ z0;replace d1:=hd_ d1;clear k5 z1 osb;refine Z0n rfl ?_;go_big_quiet_step (fail);refine wpQuiet_nil ?_;refine Z0c ?_
 have x0:w5.cell? ⟨sb,0,none⟩=some (.int .i64 2):=Z00 d1.out 0
 have x1:w5.cell? ⟨sb,1,none⟩=some (.int .i64 i):=Z00 d1.out 1
 have lx:=Z04 d1.out
 have a1:({ L with W:=W2 }:Lw).note 2 i 0 0 z2 eB false={ L with W:=W2 }:=rfl
 obtain⟨w6,b1⟩:∃ w6,w6=w5:=⟨_,rfl⟩
 have h6:LwO own5 w0 w6 { B with A:=A5 } { L with W:=W2 }:=by rw [b1];exact h5
 have f2:=hd_ (show Keeps own own5 w w6 by rw [b1];exact e2.out)
 replace h5:=hd_ h5
 have e1:LwI (7*K+8+7) (26000000*K) (({ L with W:=W2 }:Lw).note 2 i 0 0 z2 eB false):=by
  refine ((k1.out.setW f0.out).note (by show W2.n≤7;rw [f0.out];exact h7) 2 i 0 0 z2 eB false (fun e=>absurd e (by decide))).up ?_ (Nat.le_refl _)
  have hc:Z6k 2≤7:=by decide
  omega
 rw [a1] at e1
 have hL:=Zk9 h6 (by exact g0.out) (by omega) e1 (by omega) (by exact hq.out)
 rw [show ({ L with W:=W2 }:Lw).W.n=L.W.n from f0.out] at hL
 skip
 replace hL:=hd_ hL;replace h6:=hd_ h6;replace e1:=hd_ e1;go_upto_region 27 with (fail)
 rw [← b1]
 replace b1:=hd_ b1;clear x0 x1 lx;go_wp2_with fail
 refine hL.out.mono ?_
 rintro r w7 ⟨rfl,own7,B7,n1,e7,ea7,k7⟩
 have hT:=hd_ (d0.out own7 w7 B7 n1 g0.out z0.out)
 have i2:=hd_ (f2.out.trans k7)
 clear hL n1 k7;go_wp2
 go_ret
 exact⟨z2,rfl,rfl,own7,B7,hT.out,e7,i2.out⟩
end
end
section
open Go.RowKit
def Lw.slk (L:Lw) (id:Nat):Lw:=match (Z0i L.W id).s with
 | none=>L
 | some _=>{ L with slack:=L.slack.set id (L.slack.getD id 0+1),even:=L.even&&decide (L.slack.getD id 0+1≤2) }
theorem Zkj:∀ (k id:Nat) (L:Lw),L.slacks (k+1) id=(L.slacks k id).slk (id+k)
 | 0,id,L=>rfl
 | k+1,id,L=>by
   show (L.slk id).slacks (k+1) (id+1)=((L.slk id).slacks k (id+1)).slk (id+(k+1))
   rw [Zkj k (id+1) (L.slk id),show id+1+k=id+(k+1) by omega]
section
variable {own own':Nat→Nat} {w0 w wa w':World} {B B':LwAt} {L L':Lw} {K:Nat}
theorem Zl5 (h:LwT own w0 w B K L) (hK:K≤8000) (hq:(L.W.step 1 0 0 0 0 eB).1.calm=true) :
  Calls Tryz.prog 48 #[Z09 B.lb,Z8n 1 0 0 0 0 eB] w fun r w'=>∃ z,r=.returned (.int .i64 z)∧z=(L.step 1 0 0 0 0 eB).2∧∃ own' B',LwT own' w0 w' B' (K+1) (L.step 1 0 0 0 0 eB).1∧B'.lb=B.lb∧Keeps own own' w w':=by
 obtain⟨W0,j1⟩:∃ W0,W0=w.alloc (.cells (Z6i 1 0 0 0 0 eB) 83):=⟨_,rfl⟩
 have o2:Below w.heap.size w W0:=j1 ▸ (Below.refl _ _).alloc (Nat.le_refl _) _
 obtain⟨sb,h0⟩:∃ sb,sb=w.heap.size:=⟨_,rfl⟩
 have d1:W0.heap[sb]?=some (.cells (Z6i 1 0 0 0 0 eB) 83 (0,0)):=j1 ▸ h0 ▸ Z0a _ _
 have x5:W0.cell? ⟨sb,5,none⟩=some (.string eB):=Z00 d1 5
 have z5:=Z03 d1 5
 have lx:=Z04 d1
 obtain⟨W1,k1⟩:∃ W1,W1=W0.setCell ⟨sb,5,none⟩ (.string eB):=⟨_,rfl⟩
 have e1:W1.heap[sb]?=some (.cells (Z6i 1 0 0 0 0 eB) 83 (0,0)):=k1 ▸ Z0d d1
 have f1:Below w.heap.size w W1:=k1 ▸ Z0x o2 (by rw [h0];exact Nat.le_refl _) 5 _
 have h1:=h.o.grow f1
 have o3:Zl2 eB=eB:=rfl
 obtain⟨R,hR⟩:∃ R,R=L.W.step 1 0 0 0 0 eB:=⟨_,rfl⟩
 obtain⟨W2,z2⟩:=R
 have q0:L.W.step 1 0 0 0 0 eB=(W2,z2):=hR.symm
 have d2:L.step 1 0 0 0 0 eB=((({ L with W:=W2 }:Lw).note 1 0 0 0 z2 eB (L.W.node 0).isSome).looks L.W.n.toNat 1,z2):=by
  unfold Lw.step
  rw [o3,q0]
 have m0:W2.n=L.W.n:=by
  have:=congrArg (fun r:Wl × Int=>r.1.n) q0
  exact this.symm.trans rfl
 rw [q0] at hq
 replace hq:W2.calm=true:=hq
 have a0:=fun w1 (hw1:LwO own w0 w1 B L)=>Z6b hw1.wl h.f h.d (by omega) 1 0 0 0 0 eB (by decide)
 rw [q0] at a0
 rw [d2]
 have k0:=fun own' w' B' (ho:LwO own' w0 w' B' (L.step 1 0 0 0 0 eB).1) (hf:WOk (7*K+8+3) W2) (hd:WOd (7*K+8+3) W2)=>Zku h hK q0 m0 hf hd (by decide) ho
 rw [d2] at k0
 have p2:=h.i
 have h7:=h.o.wl.n7
 have h3:=h.o.wl.n3
 replace k0:=hd_ k0;replace a0:=hd_ a0;replace q0:=hd_ q0;replace hR:=hd_ hR;replace d2:=hd_ d2;replace m0:=hd_ m0;replace hq:=hd_ hq;replace h:=hd_ h;replace h1:=hd_ h1;replace p2:=hd_ p2;replace d1:=hd_ d1;replace e1:=hd_ e1;replace o2:=hd_ o2;replace f1:=hd_ f1
 go_enter Tryz.func48,Tryz.ntmps48
 go_upto_region 1 with (fail)
 rw [← j1,← h0]
 replace j1:=hd_ j1;replace h0:=hd_ h0;go_wp2_with fail
 refine (Zkb _).mono ?_
 rintro r wx ⟨rfl,rfl⟩;go_upto_region 2 with (fail)
 rw [← k1]
 replace k1:=hd_ k1;clear x5 z5 lx
 have y0:W1.cell? ⟨sb,0,none⟩=some (.int .i64 1):=Z00 e1.out 0
 have y1:W1.cell? ⟨sb,1,none⟩=some (.int .i64 0):=Z00 e1.out 1
 have ly:=Z04 e1.out
 go_upto_region 5 with (fail);clear y0 y1 ly
 refine Z05 (fun _=>False) (.q 0 (.q 1 (.q 2 (.q 3 (.q 4 (.q 5 (.q 6 (.q 7 (.q 8 (.q 9 (.q 10 (.q 11 (.q 12 (.q 13 (.q 14 (.q 15 (.q 16 (.q 17 (.q 18 (.cut (.l 19 (.q 20 (.q 21 (.q 22 .fin)))))))))))))))))))))))) (by kernel_rfl) (by kernel_rfl) ?_
 intro w2 e3 o1
 have h2:=h1.out.grow o1
 have k2:=Z02 e1.out o1
 have a3:=hd_ (f1.out.trans (o1.mono f1.out.size))
 have u1:=Z01 (F:=fun _=>False) (b:=w2) (fun h=>h) (show w2.cell? ⟨sb,1,none⟩=some (.int .i64 0) from Z00 k2 1)
 obtain⟨cs2,b2,C2⟩:=h2.cells
 have v0:=Z01 (F:=fun _=>False) (b:=w2) (fun h=>h) (show w2.cell? ⟨B.lb,0,none⟩=some (Z09 B.A.wb) from (Z00 b2 0).trans C2.c0)
 have v1:=Z01 (F:=fun _=>False) (b:=w2) (fun h=>h) (show w2.cell? ⟨B.lb,1,none⟩=some (.int .i64 L.W.n) from (Z00 b2 1).trans C2.c1)
 clear b2 C2;replace h2:=hd_ h2;replace k2:=hd_ k2;replace e3:=hd_ e3;replace o1:=hd_ o1;iterate 19 (refine Z0n rfl ?_;go_big_quiet_step (fail);refine wpQuiet_nil ?_)
 clear u1 v0 v1;refine Z0h Z1j ?_
 refine Zh0 rfl (Chg.refl _ _) (by kernel_rfl) ?_
 go_simp
 obtain⟨w3,a2⟩:∃ w3,w3=w2:=⟨_,rfl⟩
 have g2:Below w2.heap.size w2 w3:=a2 ▸ Below.refl _ _
 rw [← a2]
 replace a2:=hd_ a2
 have n2:=h2.out.grow g2
 have s2:=Z02 k2.out g2
 have b3:=hd_ (a3.out.trans (g2.mono a3.out.size))
 replace n2:=hd_ n2;replace s2:=hd_ s2;clear g2;iterate 3 (refine Z0n rfl ?_;go_big_quiet_step (fail);refine wpQuiet_nil ?_)
 refine Z0c ?_;go_upto_region 6 with (fail)
 refine Z05 (fun _=>False) (.q 0 (.q 1 (.q 2 (.q 3 (.q 4 (.cut (.l 5 (.q 6 .fin)))))))) (by kernel_rfl) (by kernel_rfl) ?_
 intro w4 f3 p1
 have h4:=n2.out.grow p1
 have i0:=Z02 s2.out p1
 have k3:=hd_ (b3.out.trans (p1.mono b3.out.size))
 obtain⟨cs4,b4,C4⟩:=h4.cells
 have v0:=Z01 (F:=fun _=>False) (b:=w4) (fun h=>h) (show w4.cell? ⟨B.lb,0,none⟩=some (Z09 B.A.wb) from (Z00 b4 0).trans C4.c0)
 have u0:=Z01 (F:=fun _=>False) (b:=w4) (fun h=>h) (show w4.cell? ⟨sb,0,none⟩=some (.int .i64 1) from Z00 i0 0)
 have u1:=Z01 (F:=fun _=>False) (b:=w4) (fun h=>h) (show w4.cell? ⟨sb,1,none⟩=some (.int .i64 0) from Z00 i0 1)
 have u2:=Z01 (F:=fun _=>False) (b:=w4) (fun h=>h) (show w4.cell? ⟨sb,2,none⟩=some (.int .i64 0) from Z00 i0 2)
 have u3:=Z01 (F:=fun _=>False) (b:=w4) (fun h=>h) (show w4.cell? ⟨sb,3,none⟩=some (.int .i64 0) from Z00 i0 3)
 have u4:=Z01 (F:=fun _=>False) (b:=w4) (fun h=>h) (show w4.cell? ⟨sb,4,none⟩=some (.int .i64 0) from Z00 i0 4)
 have u5:=Z01 (F:=fun _=>False) (b:=w4) (fun h=>h) (show w4.cell? ⟨sb,5,none⟩=some (.string eB) from Z00 i0 5)
 clear b4 C4
 have d3:=hd_ (a0.out w4 h4)
 replace h4:=hd_ h4;replace i0:=hd_ i0;replace f3:=hd_ f3;replace p1:=hd_ p1;clear a0;iterate 5 (refine Z0n rfl ?_;go_big_quiet_step (fail);refine wpQuiet_nil ?_)
 clear u0 u1 u2 u3 u4 u5 v0;refine Z0h Z1j ?_;refine Z0j rfl (by kernel_rfl) ?_;intro K1 i1;go_simp
 refine d3.out.mono ?_
 rintro r w5 ⟨z5,rfl,i3,own5,A5,b1,a1,q1,k5,e5,y2⟩
 obtain rfl:z2=z5:=i3.symm
 clear i3
 refine i1 _ _ (Zko h4.out.wl b1 k5.size) ?_
 clear i1 K1 d3
 replace b1:WlO own5 w0 w5 A5 W2:=b1
 replace a1:WOk (7*K+8+3) W2:=a1
 replace q1:WOd (7*K+8+3) W2:=q1
 have h5:=h4.out.turnW b1 k5 e5 m0.out
 have j3:sb<w4.heap.size:=Z04 i0.out
 have osb:own sb=0:=h.out.o.wf sb (by rw [h0.out];exact Nat.le_refl _)
 have t1:w5.heap[sb]?=_:=(k5.keep sb j3 (by rw [osb];exact jw0)).2.trans i0.out
 have t3:=hd_ ((Keeps.below (own:=own) k3.out).trans k5.pub)
 replace b1:=hd_ b1;replace a1:=hd_ a1;replace q1:=hd_ q1;replace t1:=hd_ t1;clear k5 j3 osb;refine Z0n rfl ?_;go_big_quiet_step (fail);refine wpQuiet_nil ?_;refine Z0c ?_
 have x0:w5.cell? ⟨sb,0,none⟩=some (.int .i64 1):=Z00 t1.out 0
 have x1:w5.cell? ⟨sb,1,none⟩=some (.int .i64 0):=Z00 t1.out 1
 have lx:=Z04 t1.out
 replace e5:=hd_ e5;replace y2:=hd_ y2
 obtain⟨N,hN⟩:∃ N:Nat,L.W.n=N:=⟨L.W.n.toNat,by omega⟩
 have hN7:N≤7:=by omega
 obtain⟨X0,z0⟩:∃ X0:Lw,X0={ L with W:=W2 }:=⟨_,rfl⟩
 have f2:X0.W=W2:=by rw [z0]
 rw [← z0] at h5
 have g0:({ L with W:=W2 }:Lw).note 1 0 0 0 z2 eB (L.W.node 0).isSome=X0.slacks N 1:=by
  rw [z0]
  show ({ L with W:=W2 }:Lw).slacks W2.n.toNat 1=_
  rw [m0.out,hN,Int.toNat_natCast]
 have c2:LwI (7*K+8) (26000000*K) X0:=by rw [z0];exact p2.out.setW m0.out
 have m3:B.lb=({ B with A:=A5 }:LwAt).lb:=rfl
 obtain⟨B5,g1⟩:∃ B5:LwAt,B5={ B with A:=A5 }:=⟨_,rfl⟩
 have o0:B5.lb=B.lb:=by rw [g1]
 have z1:B5.A=A5:=by rw [g1]
 rw [← g1] at h5
 clear m3;replace z0:=hd_ z0;replace g0:=hd_ g0;replace c2:=hd_ c2;replace g1:=hd_ g1;replace h5:=hd_ h5;replace hN:=hd_ hN;replace o0:=hd_ o0;replace z1:=hd_ z1;replace f2:=hd_ f2;go_upto_region 8 with (fail);clear x0 x1 lx;go_wp2
 go_loopw [7] (fun i wr=>∃ k:Nat,k≤N∧i=.int .i64 ((k+1:Nat):Int)∧LwO own5 w0 wr B5 (X0.slacks k 1)∧Keeps own own5 w wr) (fun i _=>N+1-(intOf i).toNat)
 case atStart=>exact⟨0,Nat.zero_le _,by go_num,h5.out,t3.out⟩
 case round=>
  obtain⟨k,hk,rfl,h6,k6⟩:=hrel
  have j0:(X0.slacks k 1).W=W2:=(Zf1 k 1 X0).trans f2.out
  have q2:=LwI.slacks k 1 c2.out
  have n1:X0.slacks (k+1) 1=(X0.slacks k 1).slk (k+1):=by rw [Zkj,Nat.add_comm]
  have d0:k=N→X0.slacks k 1=X0.slacks N 1:=fun e=>by rw [e]
  generalize X0.slacks k 1=Y at h6 j0 q2 n1 d0
  obtain⟨cs6,b6,C6⟩:=h6.cells
  rw [o0.out] at b6
  have c1:wr.cell? ⟨B.lb,1,none⟩=some (.int .i64 N):=by rw [Z00 b6,C6.c1,j0,m0.out,hN.out]
  have c0:wr.cell? ⟨B.lb,0,none⟩=some (Z09 A5.wb):=by rw [Z00 b6,C6.c0,z1.out]
  have l0:B.lb<wr.heap.size:=Z04 b6
  clear b6 C6;replace n1:=hd_ n1
  by_cases hlt:k<N
  ·clear d0
   have r2:decide ((k:Int)+1≤(N:Int))=true:=decide_eq_true (by omega)
   have p3:((k+1:Nat):Int)=(k:Int)+1:=by omega
   have f0:=Z1n h6.wl (i:=k+1) (by omega) (by rw [j0,m0.out,hN.out];omega)
   rw [z1.out] at f0
   cases hs:(Z0i Y.W (k+1)).s with
   | none=>
     have s0:xV A5 Y.W (k+1)=.pointer none:=by unfold xV;rw [hs];rfl
     rw [s0] at f0
     have e2:X0.slacks (k+1) 1=Y:=by rw [n1.out];unfold Lw.slk;rw [hs]
     replace e2:=hd_ e2;replace f0:=hd_ f0;replace h6:=hd_ h6;replace k6:=hd_ k6;replace s0:=hd_ s0;replace hs:=hd_ hs;replace j0:=hd_ j0;go_wp2_with fail
     refine f0.out.mono ?_
     rintro r w7 ⟨rfl,r0⟩
     have p0:=hd_ (h6.out.grow r0)
     have k7:=hd_ (k6.out.trans (.below r0))
     clear f0 r0 c0 c1 l0;go_wp2
     go_roundw
     case rel=>exact⟨k+1,by omega,by go_num,by rw [e2.out];exact p0.out,k7.out⟩
     case measure=>simp [intOf];omega
   | some s=>
     have s0:xV A5 Y.W (k+1)=Z09 (A5.nd (k+1)).b:=by unfold xV;rw [hs];rfl
     rw [s0] at f0
     have e2:X0.slacks (k+1) 1={ Y with slack:=Y.slack.set (k+1) (Y.slack.getD (k+1) 0+1),even:=Y.even&&decide (Y.slack.getD (k+1) 0+1≤2) }:=by rw [n1.out];unfold Lw.slk;rw [hs]
     have h0:=q2.slack (k+1)
     obtain⟨sl,r1⟩:∃ sl,sl=Y.slack.getD (k+1) 0:=⟨_,rfl⟩
     obtain⟨ev,j2⟩:∃ ev,ev=Y.even:=⟨_,rfl⟩
     rw [← r1,← j2] at e2
     rw [← r1] at h0
     have s3:sl≤1000000:=by omega
     have r3:=h0.1
     clear h0;replace e2:=hd_ e2;replace f0:=hd_ f0;replace h6:=hd_ h6;replace k6:=hd_ k6;replace s0:=hd_ s0;replace hs:=hd_ hs;replace j0:=hd_ j0;replace r1:=hd_ r1;replace j2:=hd_ j2;go_wp2_with fail
     refine f0.out.mono ?_
     rintro r w7 ⟨rfl,r0⟩
     have p0:=hd_ (h6.out.grow r0)
     have k7:=hd_ (k6.out.trans (.below r0))
     clear f0 r0 c0 c1 l0;go_upto_region 12 with (fail)
     refine Z05 (fun _=>False) (.q 0 (.q 1 (.q 2 (.q 3 (.q 4 (.q 5 (.q 6 (.q 7 (.q 8 (.q 9 (.cut (.l 10 .fin)))))))))))) (by kernel_rfl) (by kernel_rfl) ?_
     intro w8 g3 i2
     have h8:=p0.out.grow i2
     have k8:=hd_ (k7.out.trans (.below i2))
     obtain⟨cs8,b8,C8⟩:=h8.cells
     rw [o0.out] at b8
     have x2:w8.cell? ⟨B.lb,38+(k+1),none⟩=some (.int .i64 sl):=by rw [Z00 b8,C8.slack (k+1) (by omega),r1.out]
     have y3:=Z01 (F:=fun _=>False) (b:=w8) (fun h=>h) x2
     have z3:=Z03 b8 (38+(k+1))
     have l8:=Z04 b8
     obtain⟨w9,s1⟩:∃ w9,w9=w8.setCell ⟨B.lb,38+(k+1),none⟩ (.int .i64 (sl+1)):=⟨_,rfl⟩
     have b9:=s1 ▸ Z0d (o:=38+(k+1)) (u:=.int .i64 (sl+1)) b8
     obtain⟨l1,l2,l3,l4,l5⟩:=h8.r.len
     obtain⟨h9,k9⟩:=h8.set4 (o:=38+(k+1)) (v:=.int .i64 (sl+1)) { Y with slack:=Y.slack.set (k+1) (sl+1) } rfl rfl rfl rfl rfl ⟨l1,l2,l3,l4,by show (Y.slack.set _ _).length=8;rw [List.length_set];exact l5⟩ (fun cs h=>h.setSlack (by omega) l5 _)
     rw [o0.out,← s1] at h9 k9
     have m2:w9.cell? ⟨B.lb,46,none⟩=some (.bool ev):=by rw [Z00 b9,Array.getElem?_setIfInBounds_ne (by omega),C8.ev,j2.out]
     have d38:w9.cell? ⟨B.lb,38+(k+1),none⟩=some (.int .i64 (sl+1)):=by rw [Z00 b9];exact csEq (by rw [C8.sz];omega)
     have v2:=Z03 b9 46
     have l9:=Z04 b9
     have x3:=hd_ (k8.out.trans k9)
     replace h9:=hd_ h9;replace h8:=hd_ h8;clear b8 C8 b9 k9;replace g3:=hd_ g3;replace i2:=hd_ i2;iterate 10 (refine Z0n rfl ?_;go_big_quiet_step (fail);refine wpQuiet_nil ?_)
     clear y3;refine Z0h Z1j ?_;refine Z0j rfl (by kernel_rfl) ?_;intro K1 i1;go_simp
     refine i1 _ _ (Z06 (Chg.refl _ _) trivial) ?_
     clear i1 K1;refine Z0c ?_
     rw [← s1]
     replace s1:=hd_ s1;clear x2 z3 l8
     obtain⟨w10,b0⟩:∃ w10,w10=w9.setCell ⟨B.lb,46,none⟩ (.bool (ev&&decide (sl+1≤2))):=⟨_,rfl⟩
     obtain⟨n0,t2⟩:=h9.out.set4 (o:=46) (v:=.bool (ev&&decide (sl+1≤2))) { Y with slack:=Y.slack.set (k+1) (sl+1),even:=ev&&decide (sl+1≤2) } rfl rfl rfl rfl rfl h9.out.r.len (fun cs h=>h.setEven _)
     rw [o0.out,← b0] at n0 t2
     have t0:=hd_ (x3.out.trans t2)
     replace n0:=hd_ n0;clear t2
     cases ev with
     | false=>
       have e0:w10=w9.setCell ⟨B.lb,46,none⟩ (.bool false):=b0
       clear b0;go_upto_region 10 with (fail)
       rw [← e0]
       replace e0:=hd_ e0;clear m2 d38 v2 l9;go_wp2
       go_roundw
       case rel=>exact⟨k+1,by omega,by go_num,by rw [e2.out];exact n0.out,t0.out⟩
       case measure=>simp [intOf];omega
     | true=>
       cases hd2:decide (sl+1≤2) with
       | false=>
         have e0:w10=w9.setCell ⟨B.lb,46,none⟩ (.bool false):=by rw [b0,hd2];rfl
         rw [hd2] at n0 e2
         clear b0;go_upto_region 10 with (fail)
         rw [← e0]
         replace e0:=hd_ e0;clear m2 d38 v2 l9 hd2;go_wp2
         go_roundw
         case rel=>exact⟨k+1,by omega,by go_num,by rw [e2.out];exact n0.out,t0.out⟩
         case measure=>simp [intOf];omega
       | true=>
         have e0:w10=w9.setCell ⟨B.lb,46,none⟩ (.bool true):=by rw [b0,hd2];rfl
         rw [hd2] at n0 e2
         clear b0;go_upto_region 10 with (fail)
         rw [← e0]
         replace e0:=hd_ e0;clear m2 d38 v2 l9 hd2;go_wp2
         go_roundw
         case rel=>exact⟨k+1,by omega,by go_num,by rw [e2.out];exact n0.out,t0.out⟩
         case measure=>simp [intOf];omega
  ·have q3:k=N:=by omega
   have r2:decide ((k:Int)+1≤(N:Int))=false:=decide_eq_false (by omega)
   have h6:LwO own5 w0 wr B5 (X0.slacks N 1):=by rw [← d0 q3];exact h6
   have m1:(X0.slacks N 1).W=W2:=(Zf1 N 1 X0).trans f2.out
   have c3:=(LwI.slacks N 1 c2.out).up (show 7*K+8+N≤7*K+8+7 by omega) (Nat.le_refl _)
   have hL:=Zk9 h6 (by rw [m1];exact a1.out) (by omega) c3 (by omega) (by rw [m1];exact hq.out)
   rw [m1,m0.out,o0.out] at hL
   replace hL:=hd_ hL;replace h6:=hd_ h6;replace k6:=hd_ k6;replace j0:=hd_ j0;replace m1:=hd_ m1;clear d0 q2 c3;go_wp2_with fail
   refine hL.out.mono ?_
   rintro r w7 ⟨rfl,own7,B7,p0,e7,ea7,k7⟩
   rw [← g0.out] at p0
   have hT:=hd_ (k0.out own7 w7 B7 p0 a1.out q1.out)
   have v3:=hd_ (k6.out.trans k7)
   clear hL p0 k7 c0 c1 l0;go_wp2
   go_ret
   exact⟨z2,rfl,rfl,own7,B7,hT.out,e7,v3.out⟩
end
end
section
open Go.RowKit
def Lw.calm1 (L:Lw) (fn a:Int):Bool:=(L.W.step fn a 0 0 0 eB).1.calm
def Lw.okTicks (L:Lw):Nat→Nat→Bool
 | 0,_=>true
 | k+1,id=>L.calm1 2 id&&(L.step 2 id 0 0 0 eB).1.okTicks k (id+1)
def Lw.okSends (L:Lw):Nat→Bool
 | 0=>true
 | k+1=>match L.W.net with
   | []=>true
   | _ :: _=>L.calm1 3 0&&(L.step 3 0 0 0 0 eB).1.okSends k
def Lw.nsend (L:Lw):Nat→Nat
 | 0=>0
 | k+1=>match L.W.net with
   | []=>0
   | _ :: _=>(L.step 3 0 0 0 0 eB).1.nsend k+1
def Lw.okRound (L:Lw):Bool:=L.calm1 1 0&&((L.step 1 0 0 0 0 eB).1.okTicks L.W.n.toNat 1&&L.beat.okSends 400)
def Lw.roundK (L:Lw):Nat:=1+L.W.n.toNat+L.beat.nsend 400
def Lw.okRounds (L:Lw):Nat→Bool
 | 0=>true
 | k+1=>L.okRound&&L.round.okRounds k
def Lw.roundsK (L:Lw):Nat→Nat
 | 0=>0
 | k+1=>L.roundK+L.round.roundsK k
theorem Zkq:∀ (j k id:Nat) (L:Lw),L.okTicks k id=true→j<k→(L.ticks j id).calm1 2 (id+j:Nat)=true
 | _,0,_,_,_,h=>by omega
 | 0,k+1,id,L,h,_=>by
   unfold Lw.okTicks at h
   exact (Bool.and_eq_true _ _ ▸ h).1
 | j+1,k+1,id,L,h,hj=>by
   unfold Lw.okTicks at h
   have:=Zkq j k (id+1) _ (Bool.and_eq_true _ _ ▸ h).2 (by omega)
   rw [show id+1+j=id+(j+1) by omega] at this
   exact this
theorem Zkc {L:Lw} (h:L.W.net=[]):∀ j,L.sends j=L
 | 0=>rfl
 | j+1=>by unfold Lw.sends;rw [h]
theorem Zkk {L:Lw} (h:L.W.net=[]):∀ j,L.nsend j=0
 | 0=>rfl
 | j+1=>by unfold Lw.nsend;rw [h]
theorem Zk7 {L:Lw} {m:Ms} {l:List Ms} (h:L.W.net=m :: l) (j:Nat):L.sends (j+1)=(L.step 3 0 0 0 0 eB).1.sends j:=by
 conv=>lhs;unfold Lw.sends
 rw [h]
theorem Zka {L:Lw} {m:Ms} {l:List Ms} (h:L.W.net=m :: l) (j:Nat):L.nsend (j+1)=(L.step 3 0 0 0 0 eB).1.nsend j+1:=by
 conv=>lhs;unfold Lw.nsend
 rw [h]
theorem Zkh {L:Lw} {m:Ms} {l:List Ms} (h:L.W.net=m :: l) (j:Nat):L.okSends (j+1)=(L.calm1 3 0&&(L.step 3 0 0 0 0 eB).1.okSends j):=by
 conv=>lhs;unfold Lw.okSends
 rw [h]
theorem Zkd:∀ (j:Nat) {L:Lw} {m:Ms} {l:List Ms},(L.sends j).W.net=m :: l→L.sends (j+1)=((L.sends j).step 3 0 0 0 0 eB).1∧L.nsend (j+1)=L.nsend j+1∧(∀ k,j<k→L.okSends k=true→(L.sends j).calm1 3 0=true)
 | 0,L,m,l,h=>by
   have h:L.W.net=m :: l:=h
   refine⟨Zk7 h 0,Zka h 0,fun k hk hok=>?_⟩
   obtain⟨k,rfl⟩:∃ i,k=i+1:=⟨k-1,by omega⟩
   rw [Zkh h,Bool.and_eq_true] at hok
   exact hok.1
 | j+1,L,m,l,h=>by
   cases hn:L.W.net with
   | nil=>rw [Zkc hn] at h;rw [hn] at h;cases h
   | cons m2 l2=>
     rw [Zk7 hn] at h
     obtain⟨a1,a2,a3⟩:=Zkd j h
     refine⟨?_,?_,fun k hk hok=>?_⟩
     ·rw [Zk7 hn,Zk7 hn];exact a1
     ·rw [Zka hn,Zka hn,a2]
     ·obtain⟨k,rfl⟩:∃ i,k=i+1:=⟨k-1,by omega⟩
      rw [Zkh hn,Bool.and_eq_true] at hok
      rw [Zk7 hn]
      exact a3 k (by omega) hok.2
theorem Zke:∀ (j:Nat) {L:Lw},(L.sends j).W.net=[]→∀ k,j≤k→L.sends k=L.sends j∧L.nsend k=L.nsend j
 | 0,L,h,k,_=>by
   have h:L.W.net=[]:=h
   exact⟨Zkc h k,Zkk h k⟩
 | j+1,L,h,k,hk=>by
   obtain⟨k,rfl⟩:∃ i,k=i+1:=⟨k-1,by omega⟩
   cases hn:L.W.net with
   | nil=>rw [Zkc hn,Zkc hn,Zkk hn,Zkk hn];exact⟨rfl,rfl⟩
   | cons m2 l2=>
     rw [Zk7 hn] at h
     obtain⟨a1,a2⟩:=Zke j h k (by omega)
     rw [Zk7 hn,Zk7 hn,Zka hn,Zka hn,a1,a2];exact⟨rfl,rfl⟩
theorem Zlf (L:Lw) (j k:Nat) (h:j≤k):L.nsend j≤L.nsend k:=by
 induction k with
 | zero=>rw [show j=0 by omega];exact Nat.le_refl _
 | succ k ih=>
   by_cases e:j=k+1
   ·rw [e];exact Nat.le_refl _
   ·refine Nat.le_trans (ih (by omega)) ?_
    cases hn:(L.sends k).W.net with
    | nil=>rw [(Zke k hn (k+1) (by omega)).2];exact Nat.le_refl _
    | cons m l=>rw [(Zkd k hn).2.1];omega
theorem Zkl:∀ (i n:Nat) (L:Lw),L.okRounds n=true→i<n→(L.rounds i).okRound=true
 | _,0,_,_,h=>by omega
 | 0,n+1,L,h,_=>by
   unfold Lw.okRounds at h
   exact (Bool.and_eq_true _ _ ▸ h).1
 | i+1,n+1,L,h,hi=>by
   unfold Lw.okRounds at h
   exact Zkl i n L.round (Bool.and_eq_true _ _ ▸ h).2 (by omega)
theorem Zk8:∀ (k:Nat) (L:Lw),L.roundsK (k+1)=L.roundsK k+(L.rounds k).roundK
 | 0,L=>by show L.roundK+0=0+L.roundK;omega
 | k+1,L=>by
   show L.roundK+L.round.roundsK (k+1)=L.roundK+L.round.roundsK k+(L.round.rounds k).roundK
   rw [Zk8 k L.round];omega
theorem Zkv (L:Lw) (i n:Nat) (h:i≤n):L.roundsK i≤L.roundsK n:=by
 induction n with
 | zero=>rw [show i=0 by omega];exact Nat.le_refl _
 | succ n ih=>
   by_cases e:i=n+1
   ·rw [e];exact Nat.le_refl _
   ·rw [Zk8];exact Nat.le_trans (ih (by omega)) (Nat.le_add_right _ _)
theorem Zlq (L:Lw) (fn a n o l:Int) (d:ByteArray) (h9:fn≠9):(L.step fn a n o l d).1.W.n=L.W.n:=by rw [Zlm];exact Zld _ _ _ _ _ _ _ h9
theorem Zle:∀ (k id:Nat) (L:Lw),(L.ticks k id).W.n=L.W.n
 | 0,_,_=>rfl
 | k+1,id,L=>by show ((L.step 2 id 0 0 0 eB).1.ticks k (id+1)).W.n=_;rw [Zle k,Zlq _ _ _ _ _ _ _ (by decide)]
theorem Zm2:∀ (k:Nat) (L:Lw),(L.sends k).W.n=L.W.n
 | 0,_=>rfl
 | k+1,L=>by
   cases hn:L.W.net with
   | nil=>rw [Zkc hn]
   | cons m l=>rw [Zk7 hn,Zm2 k,Zlq _ _ _ _ _ _ _ (by decide)]
section
variable {own own':Nat→Nat} {w0 w wa w':World} {B B':LwAt} {L L':Lw} {K:Nat}
theorem Zl6 {i:Nat} (h:LwT own w0 w B K L) (hK:K≤8000) (hi:1≤i) (hn:(i:Int)≤L.W.n) (hq:L.calm1 2 i=true) :
  Calls Tryz.prog 48 #[Z09 B.lb,Z8n 2 i 0 0 0 eB] w fun r w'=>∃ z,r=.returned (.int .i64 z)∧z=(L.step 2 i 0 0 0 eB).2∧∃ own' B',LwT own' w0 w' B' (K+1) (L.step 2 i 0 0 0 eB).1∧B'.lb=B.lb∧Keeps own own' w w':=by
 cases hs:(Z0i L.W i).s with
 | none=>exact Zl1 h hK hi hn hs hq
 | some s=>exact Zl0 h hK hi hn hs hq
theorem LwT.c1 (h:LwT own w0 w B K L):w.cell? ⟨B.lb,1,none⟩=some (.int .i64 L.W.n):=by
 obtain⟨cs,h1,h2⟩:=h.o.cells
 exact (Z00 h1 1).trans h2.c1
theorem Zkw (h:LwT own w0 w B K L) (n:Nat) (hn:n≤1000) (hok:L.okRounds n=true) (hK:K+L.roundsK n≤8000) :
  Calls Tryz.prog 47 #[Z09 B.lb, .int .i64 n] w fun r w'=>r=.returned (.tuple #[])∧∃ own' B',LwT own' w0 w' B' (K+L.roundsK n) (L.rounds n)∧B'.lb=B.lb∧Keeps own own' w w':=by
 replace h:=hd_ h;replace hok:=hd_ hok;replace hK:=hd_ hK
 go_enter Tryz.func47,Tryz.ntmps47
 go_wp2
 go_loopw [4] (fun i wr=>∃ (k:Nat) (own':Nat→Nat) (B':LwAt),k≤n∧i=.int .i64 k∧LwT own' w0 wr B' (K+L.roundsK k) (L.rounds k)∧B'.lb=B.lb∧Keeps own own' w wr) (fun i _=>n-(intOf i).toNat)
 case atStart=>exact⟨0,own,B,Nat.zero_le _,rfl,h.out,rfl,Keeps.refl _ _⟩
 case round=>
  obtain⟨k,ownk,Bk,hk,rfl,g0,el,kk⟩:=hrel
  by_cases hlt:k<n
  ·have g1:decide ((k:Int)<(n:Int))=true:=decide_eq_true (by omega)
   have i0:=Zkl k n L hok.out hlt
   have h0:=Zkv L (k+1) n (by omega)
   rw [Zk8] at h0
   have n1:=hK.out
   have x0:=Zkg k L
   have m1:=Zk8 k L
   generalize L.rounds k=X at g0 i0 h0 x0 m1
   obtain⟨KX,z0⟩:∃ KX,KX=K+L.roundsK k:=⟨_,rfl⟩
   rw [← z0] at g0
   have hXK:KX+X.roundK≤8000:=by omega
   have f0:K+L.roundsK (k+1)=KX+X.roundK:=by omega
   have j0:X.roundK=1+X.W.n.toNat+X.beat.nsend 400:=rfl
   unfold Lw.okRound at i0
   rw [Bool.and_eq_true,Bool.and_eq_true] at i0
   obtain⟨j1,s0,t0⟩:=i0
   have h3:=g0.o.wl.n3
   have h7:=g0.o.wl.n7
   obtain⟨N,hN⟩:∃ N:Nat,X.W.n=N:=⟨X.W.n.toNat,by omega⟩
   have p0:=Zl5 g0 (by omega) j1
   rw [el] at p0
   have n0:X.beat=(X.step 1 0 0 0 0 eB).1.ticks N 1:=by
    show (X.step 1 0 0 0 0 eB).1.ticks X.W.n.toNat 1=_
    rw [hN,Int.toNat_natCast]
   rw [hN,Int.toNat_natCast] at s0 j0
   have q1:(X.step 1 0 0 0 0 eB).1.W.n=N:=by rw [Zlq _ _ _ _ _ _ _ (by decide),hN]
   have hN7:N≤7:=by omega
   replace hK:=hd_ n1;replace h0:=hd_ h0;replace x0:=hd_ x0;replace m1:=hd_ m1;replace z0:=hd_ z0;replace f0:=hd_ f0;replace j1:=hd_ j1;replace s0:=hd_ s0;replace t0:=hd_ t0;replace hN:=hd_ hN;replace n0:=hd_ n0;replace p0:=hd_ p0;replace g0:=hd_ g0;replace kk:=hd_ kk;clear n1 h3 h7;go_wp2_with fail
   refine p0.out.mono ?_
   rintro r w1 ⟨z1,rfl,x1,own1,B1,h1,e1,k1⟩
   have b2:=hd_ (kk.out.trans k1)
   clear x1 k1 p0
   generalize (X.step 1 0 0 0 0 eB).1=X1 at h1 s0 n0 q1
   replace h1:=hd_ h1;go_wp2
   go_loopw [5] (fun i wr=>∃ (j:Nat) (own':Nat→Nat) (B':LwAt),j≤N∧i=.int .i64 ((j:Int)+1)∧LwT own' w0 wr B' (KX+1+j) (X1.ticks j 1)∧B'.lb=B.lb∧Keeps own own' w wr) (fun i _=>N+1-(intOf i).toNat)
   case atStart=>exact⟨0,own1,B1,Nat.zero_le _,by go_num,h1.out,e1,b2.out⟩
   case round=>
    obtain⟨j,own2,B2,hj,rfl,h2,e2,k2⟩:=hrel
    have r0:(X1.ticks j 1).W.n=N:=by rw [Zle,q1]
    have c1:=h2.c1
    have l1:=h2.o.lt
    rw [r0,e2] at c1
    rw [e2] at l1
    by_cases hjl:j<N
    ·have d1:decide ((j:Int)+1≤(N:Int))=true:=decide_eq_true (by omega)
     have v0:=Zkq j N 1 X1 s0.out hjl
     rw [Nat.add_comm] at v0
     have q0:=Zl6 (i:=j+1) h2 (by omega) (by omega) (by rw [r0];omega) v0
     have y0:=Zki j 1 X1
     rw [Nat.add_comm 1 j] at y0
     rw [← y0,e2] at q0
     have a1:((j+1:Nat):Int)=(j:Int)+1:=by omega
     replace q0:=hd_ q0;replace h2:=hd_ h2;replace k2:=hd_ k2;replace y0:=hd_ y0;replace v0:=hd_ v0;replace r0:=hd_ r0;go_wp2_with fail
     refine q0.out.mono ?_
     rintro r w3 ⟨z3,rfl,y1,own3,B3,h3,e3,k3⟩
     have c2:=hd_ (k2.out.trans k3)
     replace h3:=hd_ h3;clear y1 k3 q0 c1 l1;go_wp2
     go_roundw
     case rel=>exact⟨j+1,own3,B3,by omega,by go_num,h3.out,e3,c2.out⟩
     case measure=>simp [intOf];omega
    ·have b1:j=N:=by omega
     have a1:((j+1:Nat):Int)=(j:Int)+1:=by omega
     have d1:decide ((j:Int)+1≤(N:Int))=false:=decide_eq_false (by omega)
     have h2:LwT own2 w0 wr B2 (KX+1+N) X.beat:=by rw [n0.out,← b1];exact h2
     replace h2:=hd_ h2;replace k2:=hd_ k2
     have k0:X.round=X.beat.sends 400:=rfl
     generalize X.beat=Y at h2 t0 j0 n0 k0
     replace n0:=hd_ n0;replace b1:=hd_ b1;clear r0;go_wp2
     go_loopw [6] (fun i wr=>∃ (p:Nat) (own':Nat→Nat) (B':LwAt),p≤400∧i=.int .i64 p∧LwT own' w0 wr B' (KX+1+N+Y.nsend p) (Y.sends p)∧B'.lb=B.lb∧Keeps own own' w wr) (fun i _=>400-(intOf i).toNat)
     case atStart=>exact⟨0,own2,B2,Nat.zero_le _,rfl,h2.out,e2,k2.out⟩
     case round=>
      obtain⟨p,own4,B4,hp,rfl,h4,e4,k4⟩:=hrel
      have e0:∀ (w5:World),LwT own4 w0 w5 B4 (KX+1+N+Y.nsend p) (Y.sends p)→Y.sends p=Y.sends 400→Y.nsend p=Y.nsend 400→LwT own4 w0 w5 B4 (K+L.roundsK (k+1)) (L.rounds (k+1)):=fun w5 h e1 e2=>by
       rw [f0.out,x0.out,k0,← e1,j0,← e2]
       rw [show KX+(1+N+Y.nsend p)=KX+1+N+Y.nsend p by omega]
       exact h
      have c0:=h4.o.c0
      have l0:=h4.o.lt
      rw [e4] at c0 l0
      by_cases hp4:p<400
      ·have v1:decide ((p:Int)<400)=true:=decide_eq_true (by omega)
       have b0:=Zlk h4.o.wl
       have a0:=Zjv h4.o.wl.nt
       cases hnet:(Y.sends p).W.net with
       | nil=>
         obtain⟨s1,s2⟩:=Zke p hnet 400 (by omega)
         rw [hnet] at a0
         have d0:=e0 wr h4 s1.symm s2.symm
         replace d0:=hd_ d0;replace b0:=hd_ b0
         replace a0:=hd_ (show Calls Tryz.prog 52 #[Z09 B4.A.nb] wr fun r w'=>r=.returned (.int .i64 0)∧wr=w' from a0)
         replace h4:=hd_ h4;replace k4:=hd_ k4;replace k0:=hd_ k0;replace j0:=hd_ j0;clear e0 s1 s2 hnet;go_wp2_with fail
         refine b0.out.mono ?_
         rintro r wx ⟨rfl,rfl⟩;go_wp2_with fail
         refine a0.out.mono ?_
         rintro r wx ⟨rfl,rfl⟩;clear c0 l0 b0 a0;go_wp2
         go_roundw
         case rel=>exact⟨k+1,own4,B4,by omega,by go_num,d0.out,e4,k4.out⟩
         case measure=>simp [intOf];omega
       | cons m l=>
         obtain⟨s1,s2,s3⟩:=Zkd p hnet
         have r1:=s3 400 hp4 t0.out
         have p1:=Zlf Y (p+1) 400 (by omega)
         have o0:=Zl4 h4 (by omega) r1
         rw [← s1,e4] at o0
         rw [hnet] at a0
         have o1:decide ((0:Int)<((m :: l).length:Int))=true:=decide_eq_true (by rw [List.length_cons];omega)
         obtain⟨ln,f1⟩:∃ ln:Int,ln=((m :: l).length:Int):=⟨_,rfl⟩
         rw [← f1] at a0 o1
         have m0:KX+1+N+Y.nsend p+1=KX+1+N+Y.nsend (p+1):=by rw [s2];omega
         rw [m0] at o0
         replace f1:=hd_ f1;replace o0:=hd_ o0;replace b0:=hd_ b0;replace a0:=hd_ a0;replace h4:=hd_ h4;replace k4:=hd_ k4;replace k0:=hd_ k0;replace j0:=hd_ j0;clear e0 s1 s2 s3 hnet r1 m0;go_wp2_with fail
         refine b0.out.mono ?_
         rintro r wx ⟨rfl,rfl⟩;go_wp2_with fail
         refine a0.out.mono ?_
         rintro r wx ⟨rfl,rfl⟩;clear b0 a0;go_wp2_with fail
         refine o0.out.mono ?_
         rintro r w5 ⟨z5,rfl,a2,own5,B5,h5,e5,k5⟩
         have d2:=hd_ (k4.out.trans k5)
         replace h5:=hd_ h5;clear a2 k5 o0 c0 l0 o1;go_wp2
         go_roundw
         case rel=>exact⟨p+1,own5,B5,by omega,by go_num,h5.out,e5,d2.out⟩
         case measure=>simp [intOf];omega
      ·have i1:p=400:=by omega
       have d0:=e0 wr h4 (by rw [i1]) (by rw [i1])
       have v1:decide ((p:Int)<400)=false:=decide_eq_false (by omega)
       replace d0:=hd_ d0;replace h4:=hd_ h4;replace k4:=hd_ k4;replace k0:=hd_ k0;replace j0:=hd_ j0;clear e0 c0 l0 i1;go_wp2
       go_roundw
       case rel=>exact⟨k+1,own4,B4,by omega,by go_num,d0.out,e4,k4.out⟩
       case measure=>simp [intOf];omega
  ·have t1:k=n:=by omega
   have g1:decide ((k:Int)<(n:Int))=false:=decide_eq_false (by omega)
   subst t1;replace g0:=hd_ g0;replace kk:=hd_ kk;go_wp2
   go_end0
   exact⟨rfl,ownk,Bk,g0.out,el,kk.out⟩
end
end
section
open Go.RowKit
def Lw.fineOne (L:Lw):Bool:=L.firm.all List.isEmpty&&(L.W.calm&&(L.W.ps.all (fun p=>match p.s with | none=>true | some s=>s.com==0)&&(L.views.all (fun x=>Z2x x.2.1 L.W.n)&&decide ((L.views.map fun x=>x.1).Nodup))))
theorem com_at {W:Wl} (h:(W.ps.all fun p=>match p.s with | none=>true | some s=>s.com==0)=true) {i:Nat} {s:Nd} (hs:(Z0i W i).s=some s):s.com=0:=by
 unfold Z0i at hs
 rw [List.getD_eq_getElem?_getD] at hs
 cases hp:W.ps[i-1]? with
 | none=>rw [hp] at hs;cases hs
 | some p=>
   rw [hp] at hs
   have hs:p.s=some s:=hs
   have:=List.all_eq_true.1 h p (List.mem_of_getElem? hp)
   rw [hs] at this
   simpa using this
section
variable {own own':Nat→Nat} {w0 w wa w':World} {B B':LwAt} {L L':Lw} {K:Nat}
theorem LwO.row1 (h:LwO own w0 w B L):∃ ao cap,B.fv=.slice ao L.firm.length cap∧∀ j l,L.firm[j]?=some l→∃ g a c,ao=some ⟨g,0,none⟩∧g<w.heap.size∧w.cell? ⟨g,j,none⟩=some (.slice a l.length c)∧rdE w (.slice a l.length c) l:=by
 obtain⟨ho,d0⟩:=h.r.fro
 obtain⟨ao,cap,hv,_,_,ha⟩:=ho.rd Zbs
 have hn:=h.r.frn
 refine⟨ao,cap,by rw [hv,hn],fun j l hl=>?_⟩
 have hj:j<L.firm.length:=(List.getElem?_eq_some_iff.1 hl).1
 obtain⟨g,off,e1,hc⟩:=ha (by omega)
 have h0:off=0:=by
  rcases ho.2 with ⟨a0,h0⟩ | ⟨g2,c0,cur,a0,_⟩
  ·have:B.fr.length=0:=by
    have:=congrArg List.length (show Z1h Zbs B.fr=Z1h Zbs B.fr from rfl)
    rw [hv] at a0
    injection a0
   omega
  ·rw [hv,e1] at a0
   injection a0 with hv3
   injection hv3 with hv4
   injection hv4
 subst h0
 have hx:B.fr[j]?=some B.fr[j]:=List.getElem?_eq_getElem (by omega)
 obtain⟨o1,_⟩:=h.r.fri j _ l hx hl
 have b0:=o1.rd
 obtain⟨a,c,e2⟩:=b0.len
 have h1:=hc j (by omega) 0 _ rfl
 rw [Nat.zero_add,Nat.add_zero] at h1
 have h1:w.cell? ⟨g,j*1,none⟩=some (B.fr[j].v):=h1
 rw [Nat.mul_one,e2] at h1
 exact⟨g,a,c,e1,Z0f h1,h1,by rw [← e2];exact b0⟩
theorem Zlg (h:LwT own w0 w B K L) (hK:K≤8000) (hok:L.fineOne=true):Calls Tryz.prog 54 #[Z09 B.lb] w fun r w'=>r=.returned (.bool true)∧Below w.heap.size w w':=by
 unfold Lw.fineOne at hok
 simp only [Bool.and_eq_true,decide_eq_true_eq] at hok
 obtain⟨k1,k2,k3,k4,k5⟩:=hok
 have f2:∀ j l,L.firm[j]?=some l→l=[]:=fun j l hl=>by
  have:=List.all_eq_true.1 k1 l (List.mem_of_getElem? hl)
  simpa using this
 obtain⟨F,hF⟩:∃ F,F=L.firm.length:=⟨_,rfl⟩
 have hF8:F≤100000:=by have:=h.i.fl;omega
 have hG:=hd_ fun (wr:World) (hb:Below w.heap.size w wr)=>h.o.grow hb
 replace h:=hd_ h;replace f2:=hd_ f2;replace hF:=hd_ hF;replace k1:=hd_ k1;replace k2:=hd_ k2;replace k3:=hd_ k3;replace k4:=hd_ k4;replace k5:=hd_ k5
 go_enter Tryz.func54,Tryz.ntmps54
 go_wp2
 go_loopw [3] (fun i wr=>∃ k:Nat,k≤F∧i=.int .i64 k∧Below w.heap.size w wr) (fun i _=>F-(intOf i).toNat)
 case atStart=>exact⟨0,Nat.zero_le _,rfl,Below.refl _ _⟩
 case round=>
  obtain⟨k,hk,rfl,hb⟩:=hrel
  have h1:=hG.out wr hb
  obtain⟨cs,b1,C1⟩:=h1.cells
  obtain⟨fo,fc,s2,g0⟩:=h1.row1
  have c2:wr.cell? ⟨B.lb,2,none⟩=some (.slice fo F fc):=by rw [Z00 b1,C1.c2,s2,hF.out]
  have l1:=Z04 b1
  clear C1 b1 g0;replace h1:=hd_ h1;replace s2:=hd_ s2
  by_cases hlt:k<F
  ·have v1:decide ((k:Int)<(F:Int))=true:=decide_eq_true (by omega)
   replace hb:=hd_ hb;go_wp2
   go_loopw [4] (fun i wr=>∃ j:Nat,j≤k∧i=.int .i64 j∧Below w.heap.size w wr) (fun i _=>k-(intOf i).toNat)
   case atStart=>exact⟨0,Nat.zero_le _,rfl,hb.out⟩
   case round=>
    obtain⟨j,hj,rfl,d0⟩:=hrel
    clear c2 l1
    by_cases hjk:j<k
    ·have t2:decide ((j:Int)<(k:Int))=true:=decide_eq_true (by omega)
     replace d0:=hd_ d0;go_upto_region 7 with (fail)
     refine Z05 (fun _=>False) (.q 0 (.q 1 (.q 2 (.q 3 (.q 4 (.q 5 (.q 6 (.q 7 (.q 8 (.q 9 (.q 10 (.q 11 (.q 12 (.q 13 (.q 14 (.q 15 (.q 16 (.q 17 .fin)))))))))))))))))) (by kernel_rfl) (by kernel_rfl) ?_
     intro w2 j3 e0
     have f1:=d0.out.trans (e0.mono d0.out.size)
     have h2:=hG.out w2 f1
     obtain⟨r3,b2,C2⟩:=h2.cells
     obtain⟨fo2,fc2,z0,k0⟩:=h2.row1
     have z3:L.firm[k]?=some []:=by
      have hx:=List.getElem?_eq_getElem (l:=L.firm) (i:=k) (by rw [← hF.out];omega)
      rw [hx,f2.out k _ hx]
     have y3:L.firm[j]?=some []:=by
      have hx:=List.getElem?_eq_getElem (l:=L.firm) (i:=j) (by rw [← hF.out];omega)
      rw [hx,f2.out j _ hx]
     obtain⟨g,ak,ck,rfl,lg,qk,rk⟩:=k0 k [] z3
     obtain⟨g',aj,cj,eg,_,qj,rj⟩:=k0 j [] y3
     injection eg with eg
     injection eg with eg
     subst eg
     have p2:=hd_ (show w2.cell? ⟨B.lb,2,none⟩=some (.slice (some ⟨g,0,none⟩) F fc2) by rw [Z00 b2,C2.c2,z0,hF.out])
     have pk:=hd_ (show w2.cell? ⟨g,k,none⟩=some (.slice ak 0 ck) from qk)
     have pj:=hd_ (show w2.cell? ⟨g,j,none⟩=some (.slice aj 0 cj) from qj)
     have u2:=Z01 (F:=fun _=>False) (b:=w2) (fun h=>h) p2.out
     have uk:=Z01 (F:=fun _=>False) (b:=w2) (fun h=>h) qk
     have uj:=Z01 (F:=fun _=>False) (b:=w2) (fun h=>h) qj
     clear b2 C2 k0 qk qj;replace f1:=hd_ f1;replace h2:=hd_ h2;replace e0:=hd_ e0;replace j3:=hd_ j3;replace z0:=hd_ z0;replace rk:=hd_ rk;replace rj:=hd_ rj;iterate 18 (refine Z0n rfl ?_;go_big_quiet_step (fail);refine wpQuiet_nil ?_)
     refine Z0c ?_;go_upto_region 8 with (fail)
     refine Z05 (fun _=>False) (.q 0 (.q 1 (.q 2 (.q 3 (.q 4 (.q 5 (.q 6 (.q 7 (.q 8 (.q 9 (.q 10 (.q 11 (.q 12 (.q 13 (.q 14 (.q 15 (.q 16 (.q 17 (.cut (.l 18 (.q 19 .fin))))))))))))))))))))) (by kernel_rfl) (by kernel_rfl) ?_
     intro w3 s1 b0
     have n0:=f1.out.trans (b0.mono f1.out.size)
     have q3:ck≤maxLen:=by obtain⟨_,_,e,_,hc,_⟩:=rk.out;injection e with _ _ e3;rw [e3];exact hc
     have p3:cj≤maxLen:=by obtain⟨_,_,e,_,hc,_⟩:=rj.out;injection e with _ _ e3;rw [e3];exact hc
     have v2:=Z01 (F:=fun _=>False) (b:=w3) (fun h=>h) (show w3.cell? ⟨B.lb,2,none⟩=some (.slice (some ⟨g,0,none⟩) F fc2) from (b0.cell (Z0f p2.out)).trans p2.out)
     have vk:=Z01 (F:=fun _=>False) (b:=w3) (fun h=>h) (show w3.cell? ⟨g,k,none⟩=some (.slice ak 0 ck) from (b0.cell (Z0f pk.out)).trans pk.out)
     have vj:=Z01 (F:=fun _=>False) (b:=w3) (fun h=>h) (show w3.cell? ⟨g,j,none⟩=some (.slice aj 0 cj) from (b0.cell (Z0f pj.out)).trans pj.out)
     clear u2 uk uj;replace n0:=hd_ n0;replace b0:=hd_ b0;replace s1:=hd_ s1;iterate 18 (refine Z0n rfl ?_;go_big_quiet_step (fail);refine wpQuiet_nil ?_)
     clear v2 vk vj;refine Z0h Z1j ?_;refine Z0j rfl (by kernel_rfl) ?_;intro K1 a0;go_simp
     refine (Zkf (.slice ak 0 ck) (.slice aj 0 cj) [] [] w3 (Z8z w3 ak ck q3) (Z8z w3 aj cj p3)).mono ?_
     rintro r w4 ⟨rfl,f0⟩
     refine a0 _ _ (.of_below f0) ?_
     clear a0 K1
     have n2:=hd_ (n0.out.trans (f0.mono n0.out.size))
     have d1:Z2j [] []=true:=rfl
     rw [d1]
     clear f0 d1;refine Z0n rfl ?_;go_big_quiet_step (fail);refine wpQuiet_nil ?_;refine Z0c ?_;go_wp2
     go_roundw
     case rel=>exact⟨j+1,by omega,by go_num,n2.out⟩
     case measure=>simp [intOf];omega
    ·have t2:decide ((j:Int)<(k:Int))=false:=decide_eq_false (by omega)
     replace d0:=hd_ d0;go_wp2
     go_roundw
     case rel=>exact⟨k+1,by omega,by go_num,d0.out⟩
     case measure=>simp [intOf];omega
  ·have v1:decide ((k:Int)<(F:Int))=false:=decide_eq_false (by omega)
   obtain⟨V,hV⟩:∃ V,V=L.views:=⟨_,rfl⟩
   obtain⟨N,hN⟩:∃ N:Nat,L.W.n=N:=⟨L.W.n.toNat,by have:=h.out.o.wl.n3;omega⟩
   have hN7:N≤7:=by have:=h.out.o.wl.n7;omega
   have hVl:V.length≤300000000000:=by have:=h.out.i.vl;rw [hV];omega
   have j0:∀ j (hj:j<V.length),Z2x V[j].2.1 (N:Int)=true:=fun j hj=>by
    have:=List.all_eq_true.1 k4.out V[j] (by rw [← hV];exact List.getElem_mem hj)
    rw [← hN];exact this
   have i0:∀ i j (hi:i<V.length) (hj:j<i),V[i].1≠V[j].1:=fun i j hi hj e=>by
    have o3:=k5.out
    rw [← hV] at o3
    have:=(List.pairwise_iff_getElem.1 o3) j i (by rw [List.length_map];omega) (by rw [List.length_map];exact hi) hj
    rw [List.getElem_map,List.getElem_map] at this
    exact this e.symm
   replace hV:=hd_ hV;replace hN:=hd_ hN;replace j0:=hd_ j0;replace i0:=hd_ i0;replace hb:=hd_ hb;go_wp2;clear c2 l1 v1
   go_loopw [6] (fun i wr=>∃ k:Nat,k≤V.length∧i=.int .i64 k∧Below w.heap.size w wr) (fun i _=>V.length-(intOf i).toNat)
   case atStart=>exact⟨0,Nat.zero_le _,rfl,hb.out⟩
   case round=>
    obtain⟨p,hp,rfl,d0⟩:=hrel
    have h2:=hG.out _ d0
    obtain⟨r3,b2,C2⟩:=h2.cells
    obtain⟨vo,vc,i2,g0⟩:=h2.row3
    rw [← hV.out] at i2 g0
    have j2:=(Z00 b2 20).trans C2.c20
    rw [i2] at j2
    have l2:=Z04 b2
    clear C2 b2;replace h2:=hd_ h2;replace i2:=hd_ i2
    by_cases hpl:p<V.length
    ·have w1:decide ((p:Int)<(V.length:Int))=true:=decide_eq_true (by omega)
     clear g0;replace d0:=hd_ d0;go_upto_region 13 with (fail);clear j2 l2
     refine Z05 (fun _=>False) (.q 0 (.q 1 (.q 2 (.q 3 (.q 4 (.q 5 (.q 6 (.q 7 (.q 8 (.q 9 (.q 10 (.q 11 (.cut (.l 12 (.q 13 .fin))))))))))))))) (by kernel_rfl) (by kernel_rfl) ?_
     intro w3 s1 e0
     have n0:=d0.out.trans (e0.mono d0.out.size)
     have h3:=hG.out w3 n0
     obtain⟨s3,b3,C3⟩:=h3.cells
     obtain⟨vo3,vc3,r0,l0⟩:=h3.row3
     rw [← hV.out] at r0 l0
     obtain⟨g,rfl,lg,_,i3⟩:=l0 (by omega)
     obtain⟨q0,q1⟩:=i3 p hpl
     have hm:=j0.out p hpl
     have c3:=Z01 (F:=fun _=>False) (b:=w3) (fun h=>h) (show w3.cell? ⟨B.lb,20,none⟩=some (.slice (some ⟨g,0,none⟩) V.length vc3) by rw [Z00 b3,C3.c20,r0])
     have u1:=Z01 (F:=fun _=>False) (b:=w3) (fun h=>h) (show w3.cell? ⟨B.lb,1,none⟩=some (.int .i64 N) by rw [Z00 b3,C3.c1,hN.out])
     have uq:=Z01 (F:=fun _=>False) (b:=w3) (fun h=>h) q1
     generalize V[p].2.1=tm at uq hm q1
     clear C3 b3 l0 i3 q0 q1;replace n0:=hd_ n0;replace h3:=hd_ h3;replace e0:=hd_ e0;replace s1:=hd_ s1;replace r0:=hd_ r0;replace hm:=hd_ hm;iterate 12 (refine Z0n rfl ?_;go_big_quiet_step (fail);refine wpQuiet_nil ?_)
     clear c3 u1 uq;refine Z0h Z1j ?_;refine Z0j rfl (by kernel_rfl) ?_;intro K1 a0;go_simp
     refine (Zlj tm (N:Int) w3).mono ?_
     rintro r w4 ⟨rfl,b0⟩
     refine a0 _ _ (.of_below b0) ?_
     clear a0 K1
     rw [hm.out]
     have n2:=hd_ (n0.out.trans (b0.mono n0.out.size))
     clear b0;refine Z0n rfl ?_;go_big_quiet_step (fail);refine wpQuiet_nil ?_;refine Z0c ?_;go_wp2
     go_loopw [7] (fun i wr=>∃ j:Nat,j≤p∧i=.int .i64 j∧Below w.heap.size w wr) (fun i _=>p-(intOf i).toNat)
     case atStart=>exact⟨0,Nat.zero_le _,rfl,n2.out⟩
     case round=>
      obtain⟨j,hj,rfl,f0⟩:=hrel
      by_cases hjp:j<p
      ·have y2:decide ((j:Int)<(p:Int))=true:=decide_eq_true (by omega)
       replace f0:=hd_ f0;go_upto_region 18 with (fail)
       refine Z05 (fun _=>False) (.q 0 (.q 1 (.q 2 (.q 3 (.q 4 (.q 5 (.q 6 (.q 7 (.q 8 (.q 9 (.q 10 (.q 11 (.q 12 (.q 13 (.q 14 (.q 15 (.q 16 .fin))))))))))))))))) (by kernel_rfl) (by kernel_rfl) ?_
       intro w5 t1 o0
       have h0:=f0.out.trans (o0.mono f0.out.size)
       have h5:=hG.out w5 h0
       obtain⟨t3,b5,C5⟩:=h5.cells
       obtain⟨vo5,vc5,s0,m0⟩:=h5.row3
       rw [← hV.out] at s0 m0
       obtain⟨g5,rfl,lg5,_,y0⟩:=m0 (by omega)
       have qp:=(y0 p hpl).1
       have qj:=(y0 j (by omega)).1
       have g2:=i0.out p j hpl hjp
       have c3:=Z01 (F:=fun _=>False) (b:=w5) (fun h=>h) (show w5.cell? ⟨B.lb,20,none⟩=some (.slice (some ⟨g5,0,none⟩) V.length vc5) by rw [Z00 b5,C5.c20,s0])
       have up:=Z01 (F:=fun _=>False) (b:=w5) (fun h=>h) qp
       have uj:=Z01 (F:=fun _=>False) (b:=w5) (fun h=>h) qj
       generalize V[p].1=x1 at up g2 qp
       generalize V[j].1=x2 at uj g2 qj
       have a4:(x1==x2)=false:=by simp [g2]
       clear C5 b5 m0 y0 qp qj g2;replace h0:=hd_ h0;replace h5:=hd_ h5;replace o0:=hd_ o0;replace t1:=hd_ t1;replace s0:=hd_ s0;iterate 17 (refine Z0n rfl ?_;go_big_quiet_step (fail);refine wpQuiet_nil ?_)
       clear c3 up uj;refine Z0c ?_;go_wp2
       go_roundw
       case rel=>exact⟨j+1,by omega,by go_num,h0.out⟩
       case measure=>simp [intOf];omega
      ·have y2:decide ((j:Int)<(p:Int))=false:=decide_eq_false (by omega)
       replace f0:=hd_ f0;go_wp2
       go_roundw
       case rel=>exact⟨p+1,by omega,by go_num,f0.out⟩
       case measure=>simp [intOf];omega
    ·have w1:decide ((p:Int)<(V.length:Int))=false:=decide_eq_false (by omega)
     replace d0:=hd_ d0;replace g0:=hd_ g0;go_wp2;clear j2 l2 w1
     go_loopw [8] (fun i wr=>∃ k:Nat,k≤N∧i=.int .i64 ((k:Int)+1)∧Below w.heap.size w wr) (fun i _=>N+1-(intOf i).toNat)
     case atStart=>exact⟨0,Nat.zero_le _,by go_num,d0.out⟩
     case round=>
      obtain⟨a,ha,rfl,e0⟩:=hrel
      have h3:=hG.out _ e0
      obtain⟨s3,b3,C3⟩:=h3.cells
      have c1:=(Z00 b3 1).trans C3.c1
      rw [hN.out] at c1
      have l3:=Z04 b3
      clear C3 b3;replace h3:=hd_ h3
      by_cases hal:a<N
      ·have p1:decide ((a:Int)+1≤(N:Int))=true:=decide_eq_true (by omega)
       replace e0:=hd_ e0;go_wp2;clear c1 l3 p1
       go_loopw [9] (fun i wr=>∃ b:Nat,b≤a∧i=.int .i64 ((b:Int)+1)∧Below w.heap.size w wr) (fun i _=>a+1-(intOf i).toNat)
       case atStart=>exact⟨0,Nat.zero_le _,by go_num,e0.out⟩
       case round=>
        obtain⟨b,hbb,rfl,b0⟩:=hrel
        by_cases hba:b<a
        ·have r2:decide ((b:Int)+1<(a:Int)+1)=true:=decide_eq_true (by omega)
         replace b0:=hd_ b0;go_upto_region 26 with (fail)
         refine Z05 (fun _=>False) (.q 0 (.q 1 (.q 2 (.q 3 (.q 4 (.q 6 (.q 7 (.q 8 (.q 9 (.q 10 (.l 5 (.cut (.l 11 (.q 12 (.q 13 .fin))))))))))))))) (by kernel_rfl) (by kernel_rfl) ?_
         intro w5 t1 f0
         have h0:=b0.out.trans (f0.mono b0.out.size)
         have h5:=hG.out w5 h0
         obtain⟨t3,b5,C5⟩:=h5.cells
         have u0:=Z01 (F:=fun _=>False) (b:=w5) (fun h=>h) (show w5.cell? ⟨B.lb,0,none⟩=some (Z09 B.A.wb) from (Z00 b5 0).trans C5.c0)
         have a1:=Z1n h5.wl (i:=a+1) (by omega) (by rw [hN.out];omega)
         rw [show ((a+1:Nat):Int)=(a:Int)+1 by omega] at a1
         obtain⟨xa,y1⟩:∃ xa,xa=xV B.A L.W (a+1):=⟨_,rfl⟩
         obtain⟨xb,z1⟩:∃ xb,xb=xV B.A L.W (b+1):=⟨_,rfl⟩
         rw [← y1] at a1
         have n1:=fun w6 (o0:Below w5.heap.size w5 w6)=>Z1n ((hG.out w6 (h0.trans (o0.mono h0.size))).wl) (i:=b+1) (by omega) (by rw [hN.out];omega)
         rw [show ((b+1:Nat):Int)=(b:Int)+1 by omega,← z1] at n1
         clear C5 b5;replace y1:=hd_ y1;replace z1:=hd_ z1;replace a1:=hd_ a1;replace n1:=hd_ n1;replace h0:=hd_ h0;replace h5:=hd_ h5;replace f0:=hd_ f0;replace t1:=hd_ t1;iterate 10 (refine Z0n rfl ?_;go_big_quiet_step (fail);refine wpQuiet_nil ?_)
         clear u0;refine Z0j rfl (by kernel_rfl) ?_;intro K1 a0;go_simp
         refine a1.out.mono ?_
         rintro r w6 ⟨rfl,o0⟩
         refine a0 _ _ (.of_below o0) ?_
         clear a0 K1 a1
         have o1:=hd_ (n1.out w6 o0)
         have g3:=hd_ (h0.out.trans (o0.mono h0.out.size))
         clear n1 o0;refine Z0h Z1j ?_;refine Z0j rfl (by kernel_rfl) ?_;intro K1 a0;go_simp
         refine o1.out.mono ?_
         rintro r w7 ⟨rfl,o2⟩
         refine a0 _ _ (.of_below o2) ?_
         clear a0 K1 o1
         have t0:=g3.out.trans (o2.mono g3.out.size)
         have h7:=hG.out w7 t0
         replace t0:=hd_ t0;clear o2;iterate 2 (refine Z0n rfl ?_;go_big_quiet_step (fail);refine wpQuiet_nil ?_)
         refine Z0c ?_
         cases hsa:(Z0i L.W (a+1)).s with
         | none=>
           have e1:xa=.pointer none:=by rw [y1.out];unfold xV;rw [hsa];rfl
           subst e1;replace h7:=hd_ h7;replace hsa:=hd_ hsa;go_wp2
           go_roundw
           case rel=>exact⟨b+1,by omega,by go_num,t0.out⟩
           case measure=>simp [intOf];omega
         | some sa=>
           have e1:xa=Z09 (B.A.nd (a+1)).b:=by rw [y1.out];unfold xV;rw [hsa];rfl
           cases hsb:(Z0i L.W (b+1)).s with
           | none=>
             have e2:xb=.pointer none:=by rw [z1.out];unfold xV;rw [hsb];rfl
             subst e1;subst e2;replace h7:=hd_ h7;replace hsa:=hd_ hsa;replace hsb:=hd_ hsb;go_wp2
             go_roundw
             case rel=>exact⟨b+1,by omega,by go_num,t0.out⟩
             case measure=>simp [intOf];omega
           | some sb=>
             have e2:xb=Z09 (B.A.nd (b+1)).b:=by rw [z1.out];unfold xV;rw [hsb];rfl
             subst e1;subst e2
             have j1:=Zln h7.wl (by omega) hsa
             have m1:=Zln h7.wl (by omega) hsb
             rw [com_at k3.out hsa] at j1
             rw [com_at k3.out hsb] at m1
             have la:=(Zkt k2.out hsa).2
             have lb:=(Zkt k2.out hsb).2
             have a2:=fun w8 (hb:Below w.heap.size w w8)=>wLog (hG.out w8 hb).wl h.out.f (by omega) hsa
             have d2:=fun w8 (hb:Below w.heap.size w w8)=>wLog (hG.out w8 hb).wl h.out.f (by omega) hsb
             rw [la] at a2
             rw [lb] at d2
             replace a2:=hd_ a2;replace d2:=hd_ d2;replace j1:=hd_ j1;replace m1:=hd_ m1;replace h7:=hd_ h7;replace hsa:=hd_ hsa;replace hsb:=hd_ hsb;replace la:=hd_ la;replace lb:=hd_ lb;go_wp2_with fail
             refine j1.out.mono ?_
             rintro r wx ⟨rfl,rfl⟩;go_wp2_with fail
             refine m1.out.mono ?_
             rintro r wx ⟨rfl,rfl⟩;clear j1 m1;go_upto_region 29 with (fail)
             refine Z05 (fun _=>False) (.q 0 (.q 2 (.q 4 (.q 6 (.l 1 (.q 3 (.l 5 (.q 7 (.cut (.l 8 (.q 9 .fin))))))))))) (by kernel_rfl) (by kernel_rfl) ?_
             intro w8 m3 q2
             have g1:=t0.out.trans (q2.mono t0.out.size)
             have d3:=hd_ (a2.out w8 g1)
             replace g1:=hd_ g1;replace m3:=hd_ m3;replace q2:=hd_ q2;iterate 4 (refine Z0n rfl ?_;go_big_quiet_step (fail);refine wpQuiet_nil ?_)
             refine Z0j rfl (by kernel_rfl) ?_;intro K1 a0;go_simp
             refine d3.out.mono ?_
             rintro r w9 ⟨va,rfl,z2,r1⟩
             obtain⟨aa,ca,rfl⟩:=z2.rd.len
             have v3:ca≤maxLen:=by obtain⟨_,_,e,_,hc,_⟩:=z2.rd;injection e with _ _ e3;rw [e3];exact hc
             refine a0 _ _ (.of_below r1) ?_
             clear a0 K1 d3 z2
             have i1:=g1.out.trans (r1.mono g1.out.size)
             have f3:=hd_ (d2.out w9 i1)
             replace i1:=hd_ i1;refine Z0n rfl ?_;go_big_quiet_step (fail);refine wpQuiet_nil ?_;refine Z0j rfl (by kernel_rfl) ?_;intro K1 a0;go_simp
             refine f3.out.mono ?_
             rintro r w10 ⟨vb,rfl,a3,v0⟩
             obtain⟨ab,cb,rfl⟩:=a3.rd.len
             have x3:cb≤maxLen:=by obtain⟨_,_,e,_,hc,_⟩:=a3.rd;injection e with _ _ e3;rw [e3];exact hc
             refine a0 _ _ (.of_below (r1.trans (v0.mono r1.size))) ?_
             clear a0 K1 f3 a3
             have p0:=i1.out.trans (v0.mono i1.out.size)
             replace p0:=hd_ p0;clear r1 v0;refine Z0n rfl ?_;go_big_quiet_step (fail);refine wpQuiet_nil ?_;refine Z0h Z1j ?_;refine Z0j rfl (by kernel_rfl) ?_;intro K1 a0;go_simp
             refine (Zkf (.slice aa 0 ca) (.slice ab 0 cb) [] [] w10 (Z8z w10 aa ca v3) (Z8z w10 ab cb x3)).mono ?_
             rintro r w11 ⟨rfl,x0⟩
             refine a0 _ _ (.of_below x0) ?_
             clear a0 K1
             have m2:=hd_ (p0.out.trans (x0.mono p0.out.size))
             have d1:Z2j [] []=true:=rfl
             rw [d1]
             clear x0 d1;refine Z0n rfl ?_;go_big_quiet_step (fail);refine wpQuiet_nil ?_;refine Z0c ?_;go_wp2
             go_roundw
             case rel=>exact⟨b+1,by omega,by go_num,m2.out⟩
             case measure=>simp [intOf];omega
        ·have r2:decide ((b:Int)+1<(a:Int)+1)=false:=decide_eq_false (by omega)
         replace b0:=hd_ b0;go_wp2
         go_roundw
         case rel=>exact⟨a+1,by omega,by go_num,b0.out⟩
         case measure=>simp [intOf];omega
      ·have p1:decide ((a:Int)+1≤(N:Int))=false:=decide_eq_false (by omega)
       replace e0:=hd_ e0;go_wp2
       go_ret
       exact⟨rfl,e0.out⟩
end
end
section
open Go.RowKit
theorem Zkr (dk od:Nat) (b:Int) (w:World) (h1:w.cell? ⟨dk,od,none⟩=some (.int .i64 b)) :
  Calls Tryz.prog 110 #[.pointer (some ⟨dk,od,none⟩)] w fun r w'=>r=.returned (.int .i64 b)∧w=w':=by
 have hl:=Z0f h1
 go_enter Tryz.func110,Tryz.ntmps110
 go_wp2
 go_ret
 exact⟨rfl,rfl⟩
def Lw.fine1 (L:Lw) (i:Nat):Bool:=decide (L.boot.getD i 0≤(Z0i L.W i).boot)&&(decide (L.view.getD i 0≤(Z0i L.W i).dv)&&(match (Z0i L.W i).s with
 | none=>true
 | some s=>s.knows||(!s.view.2.2 && !s.good)))
def Lw.once1 (L:Lw) (i:Nat):Lw:={ L with boot:=L.boot.set i (Z0i L.W i).boot,view:=L.view.set i (Z0i L.W i).dv }
def Lw.onced (L:Lw):Nat→Nat→Lw
 | 0,_=>L
 | k+1,id=>(L.once1 id).onced k (id+1)
def Lw.fineOnce (L:Lw):Nat→Nat→Bool
 | 0,_=>true
 | k+1,id=>L.fine1 id&&(L.once1 id).fineOnce k (id+1)
theorem Zks:∀ (k id:Nat) (L:Lw),L.onced (k+1) id=(L.onced k id).once1 (id+k)
 | 0,id,L=>rfl
 | k+1,id,L=>by
   show (L.once1 id).onced (k+1) (id+1)=((L.once1 id).onced k (id+1)).once1 (id+(k+1))
   rw [Zks k (id+1) (L.once1 id),show id+1+k=id+(k+1) by omega]
theorem Zkm:∀ (k id:Nat) (L:Lw),(L.onced k id).W=L.W
 | 0,_,_=>rfl
 | k+1,id,L=>Zkm k (id+1) (L.once1 id)
theorem Zkn:∀ (j k id:Nat) (L:Lw),L.fineOnce k id=true→j<k→(L.onced j id).fine1 (id+j)=true
 | _,0,_,_,_,h=>by omega
 | 0,k+1,id,L,h,_=>by
   unfold Lw.fineOnce at h
   exact (Bool.and_eq_true _ _ ▸ h).1
 | j+1,k+1,id,L,h,hj=>by
   unfold Lw.fineOnce at h
   have:=Zkn j k (id+1) _ (Bool.and_eq_true _ _ ▸ h).2 (by omega)
   rw [show id+1+j=id+(j+1) by omega] at this
   exact this
section
variable {own own':Nat→Nat} {w0 w wa w':World} {B B':LwAt} {L L':Lw} {K:Nat}
theorem Zl7 (h:LwT own w0 w B K L) (hK:K≤8000) (hq:L.W.calm=true) (hok:L.fineOnce L.W.n.toNat 1=true) :
  Calls Tryz.prog 55 #[Z09 B.lb] w fun r w'=>r=.returned (.bool true)∧LwO own w0 w' B (L.onced L.W.n.toNat 1)∧Keeps own own w w':=by
 obtain⟨N,hN⟩:∃ N:Nat,L.W.n=N:=⟨L.W.n.toNat,by have:=h.o.wl.n3;omega⟩
 have hN7:N≤7:=by have:=h.o.wl.n7;omega
 rw [hN,Int.toNat_natCast] at hok ⊢
 have n2:=h.d.b
 have v2:=h.d.d
 replace hok:=hd_ hok;replace hq:=hd_ hq;replace hN:=hd_ hN;replace h:=hd_ h;replace n2:=hd_ n2;replace v2:=hd_ v2
 go_enter Tryz.func55,Tryz.ntmps55
 go_wp2
 go_loopw [3] (fun i wr=>∃ k:Nat,k≤N∧i=.int .i64 ((k:Int)+1)∧LwO own w0 wr B (L.onced k 1)∧Keeps own own w wr) (fun i _=>N+1-(intOf i).toNat)
 case atStart=>exact⟨0,Nat.zero_le _,by go_num,h.out.o,Keeps.refl _ _⟩
 case round=>
  obtain⟨k,hk,rfl,h1,k1⟩:=hrel
  have f0:(L.onced k 1).W=L.W:=Zkm k 1 L
  have n1:L.onced (k+1) 1=(L.onced k 1).once1 (k+1):=by rw [Zks,Nat.add_comm]
  have e0:k=N→L.onced k 1=L.onced N 1:=fun e=>by rw [e]
  have m0:k<N→(L.onced k 1).fine1 (k+1)=true:=fun hlt=>by
   have:=Zkn k N 1 L hok.out hlt
   rw [Nat.add_comm] at this
   exact this
  generalize L.onced k 1=X at h1 f0 n1 e0 m0
  obtain⟨cs,b1,C1⟩:=h1.cells
  have c1:wr.cell? ⟨B.lb,1,none⟩=some (.int .i64 N):=by rw [Z00 b1,C1.c1,f0,hN.out]
  have c0:wr.cell? ⟨B.lb,0,none⟩=some (Z09 B.A.wb):=by rw [Z00 b1,C1.c0]
  have l1:=Z04 b1
  clear C1 b1;replace n1:=hd_ n1
  by_cases hlt:k<N
  ·have y1:decide ((k:Int)+1≤(N:Int))=true:=decide_eq_true (by omega)
   have m0:=m0 hlt
   clear e0
   unfold Lw.fine1 at m0
   rw [Bool.and_eq_true,Bool.and_eq_true,decide_eq_true_eq,decide_eq_true_eq] at m0
   obtain⟨o2,p2,r1⟩:=m0
   have hD:=Zk2 h1.wl (i:=k+1) (by omega) (by rw [f0,hN.out];omega)
   rw [show ((k+1:Nat):Int)=(k:Int)+1 by omega] at hD
   obtain⟨pb,y0⟩:∃ pb,pb=(Z0i X.W (k+1)).boot:=⟨_,rfl⟩
   obtain⟨pv,z0⟩:∃ pv,pv=(Z0i X.W (k+1)).dv:=⟨_,rfl⟩
   obtain⟨xb,a1⟩:∃ xb,xb=X.boot.getD (k+1) 0:=⟨_,rfl⟩
   obtain⟨xv,f1⟩:∃ xv,xv=X.view.getD (k+1) 0:=⟨_,rfl⟩
   rw [← y0,← a1] at o2
   rw [← z0,← f1] at p2
   have g1:decide (pb<xb)=false:=decide_eq_false (by omega)
   have g2:decide (pv<xv)=false:=decide_eq_false (by omega)
   clear o2 p2;replace y0:=hd_ y0;replace z0:=hd_ z0;replace a1:=hd_ a1;replace f1:=hd_ f1;replace r1:=hd_ r1;replace hD:=hd_ hD;replace h1:=hd_ h1;replace k1:=hd_ k1;replace f0:=hd_ f0;go_wp2_with fail
   refine hD.out.mono ?_
   rintro r w2 ⟨rfl,x1⟩
   have h2:=hd_ (h1.out.grow x1)
   have k2:=hd_ (k1.out.trans (.below x1))
   clear hD x1 c0 c1 l1;go_upto_region 5 with (fail)
   refine Z05 (fun _=>False) (.q 0 (.q 2 (.q 3 (.q 4 (.q 5 (.q 6 (.q 7 (.l 1 (.q 8 (.q 9 (.q 10 (.q 12 (.q 13 (.q 14 (.q 15 (.q 16 (.q 17 (.l 11 (.q 18 (.q 19 .fin)))))))))))))))))))) (by kernel_rfl) (by kernel_rfl) ?_
   intro w3 r2 o1
   have h3:=h2.out.grow o1
   have k3:=hd_ (k2.out.trans (.below o1))
   obtain⟨cs3,b3,C3⟩:=h3.cells
   have g3:=Z01 (F:=fun _=>False) (b:=w3) (fun h=>h) (show w3.cell? ⟨B.lb,22+(k+1),none⟩=some (.int .i64 xb) by rw [Z00 b3,C3.boot (k+1) (by omega),a1.out])
   have i3:=Z01 (F:=fun _=>False) (b:=w3) (fun h=>h) (show w3.cell? ⟨B.lb,30+(k+1),none⟩=some (.int .i64 xv) by rw [Z00 b3,C3.view (k+1) (by omega),f1.out])
   have d1:∀ w5,LwO own w0 w5 B X→w5.cell? ⟨B.A.wb,1+(k+1)*4+2,none⟩=some (.int .i64 pb)∧w5.cell? ⟨B.A.wb,1+(k+1)*4+2+1,none⟩=some (.int .i64 pv):=fun w5 h5=>by
    refine⟨?_,?_⟩
    ·rw [h5.wl.ce,show 1+(k+1)*4+2=3+4*(k+1) by omega,y0.out];exact wlL_b (by omega) (by omega)
    ·rw [h5.wl.ce,show 1+(k+1)*4+2+1=4+4*(k+1) by omega,z0.out];exact wlL_d (by omega) (by omega)
   obtain⟨q1,q2⟩:=d1 w3 h3
   have e2:=hd_ (Zkr B.A.wb (1+(k+1)*4+2) pb w3 q1)
   have j2:=hd_ (Z1m B.A.wb (1+(k+1)*4+2) pv w3 q2)
   clear C3 b3 q1 q2;replace d1:=hd_ d1;replace h3:=hd_ h3;replace o1:=hd_ o1;replace r2:=hd_ r2;iterate 7 (refine Z0n rfl ?_;go_big_quiet_step (fail);refine wpQuiet_nil ?_)
   refine Z0j rfl (by kernel_rfl) ?_;intro K1 a0;go_simp
   refine e2.out.mono ?_
   rintro r wx ⟨rfl,rfl⟩
   refine a0 _ _ (Chg.refl _ _) ?_
   clear a0 K1 e2;iterate 9 (refine Z0n rfl ?_;go_big_quiet_step (fail);refine wpQuiet_nil ?_)
   clear g3 i3;refine Z0j rfl (by kernel_rfl) ?_;intro K1 a0;go_simp
   refine j2.out.mono ?_
   rintro r wx ⟨rfl,rfl⟩
   refine a0 _ _ (Chg.refl _ _) ?_
   clear a0 K1 j2;iterate 2 (refine Z0n rfl ?_;go_big_quiet_step (fail);refine wpQuiet_nil ?_)
   refine Z0c ?_;go_upto_region 7 with (fail);clear g1 g2
   refine Z0y (Zf6 B.lb [22+(k+1),30+(k+1)]) (.q 0 (.q 1 (.q 2 (.q 3 (.q 4 (.q 6 (.q 8 (.q 9 (.q 12 (.q 13 (.l 5 (.l 7 (.q 10 (.l 11 (.q 14 (.cut (.l 15 .fin))))))))))))))))) (by kernel_rfl) (by kernel_rfl) ?_
   intro w5 s2 p1
   have h5:=h3.out.grow p1
   obtain⟨q1,q2⟩:=d1.out w5 h5
   have f2:=hd_ (Zkr B.A.wb (1+(k+1)*4+2) pb w5 q1)
   have l2:=hd_ (Z1m B.A.wb (1+(k+1)*4+2) pv w5 q2)
   obtain⟨cs5,b5,C5⟩:=h5.cells
   have b6:=Z0d (o:=22+(k+1)) (u:=.int .i64 pb) b5
   have z2:w5.cell? ⟨B.lb,22+(k+1),none⟩=some (.int .i64 xb):=by rw [Z00 b5,C5.boot (k+1) (by omega),a1.out]
   have j3:=Z03 b5 (22+(k+1))
   have a3:(w5.setCell ⟨B.lb,22+(k+1),none⟩ (.int .i64 pb)).cell? ⟨B.lb,30+(k+1),none⟩=some (.int .i64 xv):=by rw [Z00 b6,Z2o (by omega) (C5.view (k+1) (by omega)),f1.out]
   have l3:=Z03 b6 (30+(k+1))
   have l5:=Z04 b5
   obtain⟨m1,m2,m3,m4,m5⟩:=h5.r.len
   obtain⟨hA,kA⟩:=h5.set4 (o:=22+(k+1)) (v:=.int .i64 pb) { X with boot:=X.boot.set (k+1) pb } rfl rfl rfl rfl rfl ⟨m1,m2,by show (X.boot.set _ _).length=8;rw [List.length_set];exact m3,m4,m5⟩ (fun cs h=>h.setBoot (by omega) m3 _)
   obtain⟨hZ,kZ⟩:=hA.set4 (o:=30+(k+1)) (v:=.int .i64 pv) { X with boot:=X.boot.set (k+1) pb,view:=X.view.set (k+1) pv } rfl rfl rfl rfl rfl ⟨m1,m2,hA.r.len.2.2.1,by show (X.view.set _ _).length=8;rw [List.length_set];exact m4,m5⟩ (fun cs h=>h.setView (by omega) m4 _)
   obtain⟨w8,w1⟩:∃ w8,w8=(w5.setCell ⟨B.lb,22+(k+1),none⟩ (.int .i64 pb)).setCell ⟨B.lb,30+(k+1),none⟩ (.int .i64 pv):=⟨_,rfl⟩
   rw [← w1] at hZ kZ
   have y2:=hd_ ((k3.out.trans (.below p1)).trans (kA.trans kZ))
   have hZ:LwO own w0 w8 B (L.onced (k+1) 1):=by rw [n1.out];unfold Lw.once1;rw [← y0.out,← z0.out];exact hZ
   clear C5 b5 b6 q1 q2 m1 m2 m3 m4 m5 hA kA kZ;replace hZ:=hd_ hZ;replace h5:=hd_ h5;replace p1:=hd_ p1;replace s2:=hd_ s2;iterate 10 (refine Z6l rfl ?_;go_big_quiet_step (fail);refine wpQuiet_nil ?_)
   refine Z4j rfl (by kernel_rfl) ?_;intro K1 a0;go_simp
   refine f2.out.mono ?_
   rintro r wx ⟨rfl,rfl⟩
   refine a0 _ _ (ChgC.refl _ _) ?_
   clear a0 K1 f2;refine Z4j rfl (by kernel_rfl) ?_;intro K1 a0;go_simp
   refine l2.out.mono ?_
   rintro r wx ⟨rfl,rfl⟩
   refine a0 _ _ (ChgC.refl _ _) ?_
   clear a0 K1 l2;refine Z6l rfl ?_;go_big_quiet_step (fail);refine wpQuiet_nil ?_;refine Z4j rfl (by kernel_rfl) ?_;intro K1 a0;go_simp
   refine a0 _ _ ((ChgC.refl _ _).set ⟨rfl,by simp⟩) ?_
   clear a0 K1 z2 j3;refine Z6l rfl ?_;go_big_quiet_step (fail);refine wpQuiet_nil ?_;refine Z0h Z1j ?_;refine Z0j rfl (by kernel_rfl) ?_;intro K1 a0;go_simp
   refine a0 _ _ (Z06 (Chg.refl _ _) trivial) ?_
   clear a0 K1;refine Z0c ?_
   rw [← w1]
   replace w1:=hd_ w1;clear a3 l3 l5
   have hq1:Hid (L.W.calm=true):=hq
   have j1:=fun w9 (h9:LwO own w0 w9 B (L.onced (k+1) 1))=>Z1n h9.wl (i:=k+1) (by omega) (by rw [Zkm,hN.out];omega)
   have b0:(Z0i (L.onced (k+1) 1).W (k+1))=Z0i L.W (k+1):=by rw [Zkm]
   rw [show ((k+1:Nat):Int)=(k:Int)+1 by omega] at j1
   rw [f0.out] at r1
   have d0:=j1 w8 hZ.out
   cases hs:(Z0i L.W (k+1)).s with
   | none=>
     have e1:xV B.A (L.onced (k+1) 1).W (k+1)=.pointer none:=by unfold xV;rw [b0,hs];rfl
     rw [e1] at d0
     replace d0:=hd_ d0;replace e1:=hd_ e1;replace hs:=hd_ hs;replace b0:=hd_ b0
     have c0:=hZ.out.c0
     have l0:=hZ.out.lt
     clear j1;go_wp2_with fail
     refine d0.out.mono ?_
     rintro r w9 ⟨rfl,j0⟩
     have h9:=hd_ (hZ.out.grow j0)
     have k9:=hd_ (y2.out.trans (.below j0))
     clear d0 j0 c0 l0;go_wp2
     go_roundw
     case rel=>exact⟨k+1,by omega,by go_num,h9.out,k9.out⟩
     case measure=>simp [intOf];omega
   | some s=>
     have e1:xV B.A (L.onced (k+1) 1).W (k+1)=Z09 (B.A.nd (k+1)).b:=by unfold xV;rw [b0,hs];rfl
     rw [e1] at d0
     have o0:(Z0i (L.onced (k+1) 1).W (k+1)).s=some s:=by rw [b0];exact hs
     have x0:WOk (7*K+8) (L.onced (k+1) 1).W:=by rw [Zkm];exact h.out.f
     have d2:=(Zkt hq.out hs).1
     have hT:=fun w9 (h9:LwO own w0 w9 B (L.onced (k+1) 1))=>wTold h9.wl x0 (by omega) (by omega) o0
     have v0:=fun w9 (h9:LwO own w0 w9 B (L.onced (k+1) 1))=>wView h9.wl x0 (by omega) o0
     have s0:=fun w9 (h9:LwO own w0 w9 B (L.onced (k+1) 1))=>wKnows h9.wl (by omega) o0
     have q0:=fun w9 (h9:LwO own w0 w9 B (L.onced (k+1) 1))=>wGood h9.wl x0 (by omega) (by omega) o0
     rw [d2] at hT
     have k0:=r1.out
     rw [hs] at k0
     replace k0:(s.knows||(!s.view.2.2 && !s.good))=true:=k0
     obtain⟨sv,c2⟩:∃ sv,sv=s.view.1:=⟨_,rfl⟩
     obtain⟨st,b2⟩:∃ st,st=s.view.2.1:=⟨_,rfl⟩
     obtain⟨si,t1⟩:∃ si,si=s.view.2.2:=⟨_,rfl⟩
     obtain⟨sg,s1⟩:∃ sg,sg=s.good:=⟨_,rfl⟩
     obtain⟨sk,v1⟩:∃ sk,sk=s.knows:=⟨_,rfl⟩
     rw [← c2,← b2,← t1] at v0
     rw [← v1] at s0
     rw [← s1] at q0
     rw [← t1,← s1,← v1] at k0
     replace d0:=hd_ d0;replace e1:=hd_ e1;replace hs:=hd_ hs;replace o0:=hd_ o0;replace x0:=hd_ x0;replace b0:=hd_ b0;replace hT:=hd_ hT;replace v0:=hd_ v0;replace s0:=hd_ s0;replace q0:=hd_ q0;replace d2:=hd_ d2;replace c2:=hd_ c2;replace b2:=hd_ b2;replace t1:=hd_ t1;replace s1:=hd_ s1;replace v1:=hd_ v1
     have c0:=hZ.out.c0
     have l0:=hZ.out.lt
     clear j1;go_wp2_with fail
     refine d0.out.mono ?_
     rintro r w9 ⟨rfl,j0⟩
     have h9:=hZ.out.grow j0
     have k9:=hd_ (y2.out.trans (.below j0))
     have i2:=hd_ (hT.out w9 h9)
     replace h9:=hd_ h9;clear d0 j0 c0 l0 hT;go_wp2_with fail
     refine i2.out.mono ?_
     rintro r w10 ⟨tv,rfl,t2,g0⟩
     obtain⟨ta,tc,rfl⟩:=(t2.rd Z0k).len
     have i1:=h9.out.grow g0
     have e3:=hd_ (k9.out.trans (.below g0))
     have t0:=hd_ (v0.out w10 i1)
     replace i1:=hd_ i1;clear i2 g0 t2 v0;go_wp2_with fail
     refine t0.out.mono ?_
     rintro r w11 ⟨rfl,h0⟩
     have n0:=i1.out.grow h0
     have x2:=hd_ (e3.out.trans (.below h0))
     have r0:=hd_ (s0.out w11 n0)
     have p0:=hd_ (q0.out w11 n0)
     replace n0:=hd_ n0;clear t0 h0 s0 q0;go_wp2_with fail
     refine r0.out.mono ?_
     rintro r wx ⟨rfl,rfl⟩;clear r0
     cases sk with
     | true=>
       go_wp2
       go_loopw [10] (fun i wr=>i=.int .i64 0∧wr=w11) (fun _ _=>0)
       case atStart=>exact⟨rfl,rfl⟩
       case round=>
        obtain⟨rfl,rfl⟩:=hrel
        go_wp2
        go_roundw
        case rel=>exact⟨k+1,by omega,by go_num,n0.out,x2.out⟩
        case measure=>simp [intOf];omega
     | false=>
       have a2:si=false:=by cases si with
        | false=>rfl
        | true=>cases sg<;>cases k0
       have z1:sg=false:=by cases sg with
        | false=>rfl
        | true=>cases si<;>cases k0
       subst a2;subst z1;clear k0;go_wp2_with fail
       refine p0.out.mono ?_
       rintro r w12 ⟨rfl,i0⟩
       have c3:=hd_ (n0.out.grow i0)
       have f3:=hd_ (x2.out.trans (.below i0))
       clear p0 i0;go_wp2
       go_loopw [10] (fun i wr=>i=.int .i64 0∧wr=w12) (fun _ _=>0)
       case atStart=>exact⟨rfl,rfl⟩
       case round=>
        obtain⟨rfl,rfl⟩:=hrel
        go_wp2
        go_roundw
        case rel=>exact⟨k+1,by omega,by go_num,c3.out,f3.out⟩
        case measure=>simp [intOf];omega
  ·have d3:k=N:=by omega
   have y1:decide ((k:Int)+1≤(N:Int))=false:=decide_eq_false (by omega)
   have h1:LwO own w0 wr B (L.onced N 1):=by rw [← e0 d3];exact h1
   replace h1:=hd_ h1;replace k1:=hd_ k1;clear e0 m0 f0;go_wp2
   go_ret
   exact⟨rfl,h1.out,k1.out⟩
end
end
section
open Go.RowKit
theorem Zl8 (w:World) (m0:∃ m,w.cell? ⟨0,0,none⟩=some (.int .i64 m)):Calls Tryz.prog 15 #[] w fun r w'=>r=.returned (.bool true)∧Below w.heap.size w w':=by
 have hb:=hd_ (Zm4 w m0)
 have hB:Hid (Calls Tryz.prog 67 #[] w fun r w'=>r=.returned (.bool true)∧Below w.heap.size w w'):=by
  go_enter Tryz.func67,Tryz.ntmps67
  go_wp2_with fail
  refine hb.out.mono ?_
  rintro r w' ⟨rfl,a0⟩;replace a0:=hd_ a0;go_wp2
  go_ret
  exact⟨rfl,a0.out⟩
 go_enter Tryz.func15,Tryz.ntmps15
 go_wp2_with fail
 refine hB.out.mono ?_
 rintro r w' ⟨rfl,a0⟩;replace a0:=hd_ a0;go_wp2
 go_ret
 exact⟨rfl,a0.out⟩
theorem tpSmall5 (x:Int) (hx : -9223372036854775808≤x∧x≤9223372036854775807) (w:World):Calls Tryz.prog 16 #[.int .i64 x, .int .i64 5] w fun r w'=>∃ m:Int,r=.returned (.int .i64 m)∧0≤m∧m≤4∧w=w':=by
 obtain⟨q,hq⟩:∃ q,q=Int.tmod x 5:=⟨_,rfl⟩
 have h1 : -5<q∧q<5:=by
  rw [hq]
  rcases Int.le_total 0 x with h | h
  ·rw [Int.tmod_eq_emod_of_nonneg h];omega
  ·have:=Int.tmod_eq_emod_of_nonneg (a := -x) (b:=5) (by omega)
   rw [Int.neg_tmod] at this
   omega
 have hq':Int.tmod x 5=q:=hq.symm
 clear hq
 by_cases hn:q<0
 ·have e1:decide (q<0)=true:=decide_eq_true hn
  go_enter Tryz.func16,Tryz.ntmps16
  go_wp2
  go_ret
  exact⟨-q,rfl,by omega,by omega,rfl⟩
 ·have e1:decide (q<0)=false:=decide_eq_false hn
  go_enter Tryz.func16,Tryz.ntmps16
  go_wp2
  go_ret
  exact⟨q,rfl,by omega,by omega,rfl⟩
section
variable {own own':Nat→Nat} {w0 w wa w':World} {B B':LwAt} {L L':Lw} {K tb:Nat}
def tpO (own:Nat→Nat) (w:World) (tb lb:Nat):Prop:=w.heap[tb]?=some (.cells #[Z09 lb, .bool true] 94 (0,0))∧own tb=0
theorem tpO.keep {lb:Nat} (h:tpO own w tb lb) (k:Keeps own own' w w'):tpO own' w' tb lb:=by
 obtain⟨k1,k2⟩:=k.keep tb (Z04 h.1) h.2
 exact⟨by rw [k2];exact h.1,k1⟩
theorem LwT.make {n:Int} (h3:3≤n) (h7:n≤7) (h:LwO own w0 w B (Lw.make n)):LwT own w0 w B 0 (Lw.make n):=by
 have hW:(Lw.make n).W=Wl.make n:=by
  have:∀ (k id:Nat) (L:Lw),(L.starts k id).W=L.W:=by
   intro k
   induction k with
   | zero=>intro id L;rfl
   | succ k ih=>intro id L;exact ih (id+1) (L.started id)
  exact this _ _ _
 have hm:Wl.make n=Wl.made n n.toNat:=(Z5i n n.toNat (Nat.le_refl _)).symm
 refine⟨h,?_,?_,?_⟩
 ·rw [hW,hm];exact (WOk.made h3 h7 _).up (by omega)
 ·rw [hW,hm];exact (WOd.made _).up (by omega)
 ·have z:∀ l:List Int,l=Z3c→∀ j:Nat,0≤l.getD j 0∧l.getD j 0≤((7*0+8:Nat):Int):=fun l hl j=>by rw [hl,Zk5];omega
  rcases (by omega:n=3∨n=4∨n=5∨n=6∨n=7) with rfl | rfl | rfl | rfl | rfl
  all_goals
   refine⟨rfl,rfl,rfl,rfl,rfl,fun j h1 h2=>?_,fun j=>(z _ rfl j).1,fun j=>z _ rfl j,by decide,fun l hl=>?_,Nat.zero_le _,Nat.zero_le _,Nat.zero_le _⟩
   ·have h2:(j:Int)≤_:=h2
    rw [hW] at h2
    have h2:(j:Int)≤7:=by
     have:(Wl.make _).n≤7:=h7
     omega
    rcases (by omega:j=1∨j=2∨j=3∨j=4∨j=5∨j=6∨j=7) with rfl | rfl | rfl | rfl | rfl | rfl | rfl<;>decide
   ·have:l=[]:=by
     revert hl
     simp [Lw.make,Lw.starts,Lw.started,lw0]
    rw [this];exact Nat.zero_le _
theorem Zlr (w:World) (m0:∃ m,w.cell? ⟨0,0,none⟩=some (.int .i64 m)) (n:Int) (h3:3≤n) (h7:n≤7) :
  Calls Tryz.prog 17 #[.int .i64 n] w fun r w'=>∃ own B tb,r=.returned (Z09 tb)∧LwT own w w' B 0 (Lw.make n)∧tpO own w' tb B.lb:=by
 have hN:=hd_ (Zf2 w m0 n h3 h7)
 go_enter Tryz.func17,Tryz.ntmps17
 go_wp2_with fail
 refine hN.out.mono ?_
 rintro r w1 ⟨own1,B1,rfl,h1⟩
 have hb:∀ o,Below w1.heap.size w1 (w1.alloc o):=fun o=>(Below.refl _ _).alloc (Nat.le_refl _) _
 have a0:Hid (∃ own B tb,(Z09 w1.heap.size=Z09 tb)∧LwT own w (w1.alloc (.cells #[Z09 B1.lb, .bool true] 94)) B 0 (Lw.make n)∧tpO own (w1.alloc (.cells #[Z09 B1.lb, .bool true] 94)) tb B.lb):=
  hd_ ⟨own1,B1,_,rfl,LwT.make h3 h7 (h1.grow (hb _)),Z0a _ _,h1.wf _ (Nat.le_refl _)⟩
 replace h1:=hd_ h1;clear hN hb;go_wp2
 go_ret
 obtain⟨own,B,tb,e,p1,p2⟩:=a0.out
 exact⟨own,B,tb,by rw [← e];rfl,p1,p2⟩
theorem Zkx (h:LwT own w0 w B K L) (ht:tpO own w tb B.lb) (n:Nat) (hn:n≤1000) (hok:L.okRounds n=true) (hK:K+L.roundsK n≤8000) :
  Calls Tryz.prog 18 #[Z09 tb, .int .i64 n] w fun r w'=>r=.returned (.tuple #[])∧∃ own' B',LwT own' w0 w' B' (K+L.roundsK n) (L.rounds n)∧tpO own' w' tb B'.lb:=by
 have hR:=hd_ (Zkw h n hn hok hK)
 have c0:w.cell? ⟨tb,0,none⟩=some (Z09 B.lb):=Z00 ht.1 0
 have c1:w.cell? ⟨tb,1,none⟩=some (.bool true):=Z00 ht.1 1
 have l0:=Z04 ht.1
 replace h:=hd_ h;replace ht:=hd_ ht;replace hok:=hd_ hok;replace hK:=hd_ hK
 go_enter Tryz.func18,Tryz.ntmps18
 go_wp2_with fail
 refine hR.out.mono ?_
 rintro r w1 ⟨rfl,own1,B1,h1,e1,k1⟩
 have a0:=hd_ (show tpO own1 w1 tb B1.lb by rw [e1];exact ht.out.keep k1)
 replace h1:=hd_ h1;clear hR c0 c1 l0 k1;go_wp2
 go_end0
 exact⟨rfl,own1,B1,h1.out,a0.out⟩
end
end
section
open Go.RowKit
section
variable {own own':Nat→Nat} {w0 w wa w':World} {B B':LwAt} {L L':Lw} {K tb:Nat}
theorem LwT.grow (h:LwT own w0 w B K L) (hb:Below w.heap.size w w'):LwT own w0 w' B K L:=⟨h.o.grow hb,h.f,h.d,h.i⟩
theorem Zls (h:LwT own w0 w B K L) (hK:K≤8000) (ht:tpO own w tb B.lb) (N:Nat) (hN:L.W.n=N) (t:Int) (ht0:0≤t∧t<128) (hT:∀ id:Nat,1≤id→id≤N→Z18 t.toNat id=true)
  (hfi:∀ i,1≤i→i≤N→∃ s,(Z0i L.W i).s=some s∧s.good=true∧s.view=(1,t,true)) (hf1:L.fineOne=true) (hf2:L.fineOnce L.W.n.toNat 1=true) (hq:L.W.calm=true) :
  Calls Tryz.prog 19 #[Z09 tb, .int .i64 t] w fun r w'=>r=.returned (.bool true)∧∃ L',LwO own w0 w' B L':=by
 have hN7:N≤7:=by have:=h.o.wl.n7;omega
 have b0:=hd_ fun (wr:World) (hb:Below w.heap.size w wr)=>(⟨by rw [hb.cell (Z04 ht.1)];exact Z00 ht.1 0,by rw [hb.cell (Z04 ht.1)];exact Z00 ht.1 1,Nat.lt_of_lt_of_le (Z04 ht.1) hb.size⟩:wr.cell? ⟨tb,0,none⟩=some (Z09 B.lb)∧wr.cell? ⟨tb,1,none⟩=some (.bool true)∧tb<wr.heap.size)
 replace h:=hd_ h;replace ht:=hd_ ht;replace hT:=hd_ hT;replace hfi:=hd_ hfi;replace hf1:=hd_ hf1;replace hf2:=hd_ hf2;replace hq:=hd_ hq;replace hN:=hd_ hN
 go_enter Tryz.func19,Tryz.ntmps19
 go_wp2
 go_loopw [5,6] (fun v i wr=>∃ k:Nat,k≤N∧i=.int .i64 ((k:Int)+1)∧v=.int .i64 (if k=0 then 0 else 1)∧Below w.heap.size w wr) (fun _ i _=>N+1-(intOf i).toNat)
 case atStart=>exact⟨0,Nat.zero_le _,by go_num,rfl,Below.refl _ _⟩
 case round=>
  obtain⟨k,hk,rfl,rfl,hb⟩:=hrel
  obtain⟨d0,d1,dl⟩:=b0.out wr hb
  have h1:=h.out.grow hb
  have c1:=h1.c1
  rw [hN.out] at c1
  have c0:=h1.o.c0
  have l1:=h1.o.lt
  obtain⟨vv,f0⟩:∃ vv:Int,vv=if k=0 then 0 else 1:=⟨_,rfl⟩
  rw [← f0]
  by_cases hlt:k<N
  ·have n0:decide ((k:Int)+1≤(N:Int))=true:=decide_eq_true (by omega)
   obtain⟨s,hs,hg,hv⟩:=hfi.out (k+1) (by omega) (by omega)
   have k0:=Z1n h1.o.wl (i:=k+1) (by omega) (by rw [hN.out];omega)
   rw [show xV B.A L.W (k+1)=Z09 (B.A.nd (k+1)).b by unfold xV;rw [hs];rfl,show ((k+1:Nat):Int)=(k:Int)+1 by omega] at k0
   have hH:=hT.out (k+1) (by omega) (by omega)
   have a0:=fun w2:World=>rhas_any t ((k+1:Nat):Int) w2 ht0
   rw [hH,show ((k+1:Nat):Int)=(k:Int)+1 by omega] at a0
   have j0:=fun w2 (h2:LwT own w0 w2 B K L)=>wGood h2.o.wl h2.f (by omega) (by omega) hs
   have l0:=fun w2 (h2:LwT own w0 w2 B K L)=>wView h2.o.wl h2.f (by omega) hs
   rw [hg] at j0
   rw [hv] at l0
   replace k0:=hd_ k0;replace a0:=hd_ a0;replace j0:=hd_ j0;replace l0:=hd_ l0;replace h1:=hd_ h1;replace hb:=hd_ hb;replace hs:=hd_ hs;replace hg:=hd_ hg;replace hv:=hd_ hv;replace hH:=hd_ hH
   have o0:vv=0∧k=0∨vv=1:=by
    by_cases h0:k=0
    ·exact .inl ⟨by rw [f0,if_pos h0],h0⟩
    ·exact .inr (by rw [f0,if_neg h0])
   replace f0:=hd_ f0;go_wp2_with fail
   refine k0.out.mono ?_
   rintro r w2 ⟨rfl,m0⟩
   have e0:=hd_ (hb.out.trans (m0.mono hb.out.size))
   clear k0 m0 c0 c1 l1 d0 d1 dl;go_wp2_with fail
   refine (a0.out w2).mono ?_
   rintro r w3 ⟨rfl,v0⟩
   have g0:=e0.out.trans (v0.mono e0.out.size)
   have r0:=hd_ (j0.out w3 (h.out.grow g0))
   replace g0:=hd_ g0;clear v0 a0 j0;go_wp2_with fail
   refine r0.out.mono ?_
   rintro r w4 ⟨rfl,x0⟩
   have i0:=g0.out.trans (x0.mono g0.out.size)
   have t0:=hd_ (l0.out w4 (h.out.grow i0))
   replace i0:=hd_ i0;clear x0 r0 l0;go_wp2_with fail
   refine t0.out.mono ?_
   rintro r w5 ⟨rfl,y0⟩
   have p0:=hd_ (i0.out.trans (y0.mono i0.out.size))
   clear y0 t0
   rcases o0 with ⟨rfl,rfl⟩ | rfl
   ·go_wp2
    go_roundw
    case rel=>exact⟨1,by omega,by go_num,rfl,p0.out⟩
    case measure=>simp [intOf];omega
   ·go_wp2
    go_roundw
    case rel=>exact⟨k+1,by omega,by go_num,by rw [if_neg (by omega)],p0.out⟩
    case measure=>simp [intOf];omega
  ·have n0:decide ((k:Int)+1≤(N:Int))=false:=decide_eq_false (by omega)
   have hO:=hd_ fun w2 (h2:LwT own w0 w2 B K L)=>Zlg h2 hK hf1.out
   have hC:=hd_ fun w2 (h2:LwT own w0 w2 B K L)=>Zl7 h2 hK hq.out hf2.out
   have s0:=hd_ (hO.out wr h1)
   replace h1:=hd_ h1;replace hb:=hd_ hb;replace f0:=hd_ f0;go_wp2_with fail
   refine s0.out.mono ?_
   rintro r w2 ⟨rfl,m0⟩
   have e0:=hb.out.trans (m0.mono hb.out.size)
   have q0:=hd_ (hC.out w2 (h.out.grow e0))
   obtain⟨d0,d1,dl⟩:=b0.out w2 e0
   replace e0:=hd_ e0;clear s0 hO hC m0 c0 c1 l1;go_wp2_with fail
   refine q0.out.mono ?_
   rintro r w3 ⟨rfl,h3,k3⟩;replace h3:=hd_ h3;clear q0 k3 d0 d1 dl;go_wp2
   go_ret
   exact⟨rfl,_,h3.out⟩
end
end
end Go.Proofs.YtbonjbokofkafaaGreat
