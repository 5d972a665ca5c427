/- Lemmas of the proof: PkD. -/
import Derived.Shelf.SortG.Plain
import Derived.Shelf.SortG.SortNone
import Derived.Shelf.SlicesE.Clone
import Derived.Shelf.Bytes.SlClone
import Derived.Shelf.Bytes.SlEqualAll
import Derived.Shelf.Strings.Cut
import Derived.Ground.SlbCloneProg
import Derived.Ground.SlgnProg
import Derived.Ground.NamesProg
import Derived.Test.YtbonjbokofkafaaGreatProg
import Derived.Test.YtbonjbokofkafaaGreatPkA
import Derived.Lib.CutLaws
import Derived.Lib.IndexBytes
import Derived.Maps.OwnSet
import Derived.Maps.StringElems
import Derived.Sort.KeysCollected
import Derived.Test.YtbonjbokofkafaaGreatPkB
import Derived.WalkSmall
import Derived.WalkSpells
import Derived.Deep.Draws
import Derived.BigQuiet
import Derived.Lib.AppendStr
import Derived.Laws.BitsAllLaws
set_option linter.unusedVariables false
set_option maxRecDepth 100000
set_option maxHeartbeats 64000000
namespace Go.Proofs.YtbonjbokofkafaaGreat
end Go.Proofs.YtbonjbokofkafaaGreat
namespace Go.Proofs
open Go.Shelf
def Tryz.laysClone_ren:Go.Shelf.Ren:=⟨fun | 41=>235 | n=>n,fun | 22=>165 | 23=>2 | 4=>4 | n=>n,fun | n=>n⟩
theorem Tryz.laysClone:Go.Proofs.SlLaysE0.n41 Tryz.prog Tryz.laysClone_ren:={
 mixed:=by kernel_rfl
 f41:=⟨Tryz.f235.name,by decide,Tryz.func235.trans (congrArg some (by kernel_rfl))⟩
 t4:=Tryz.underlying4
 a4:=Tryz.isAgg4
 z4:=Tryz.sizeOf4
 v4:=Tryz.zeroValue4
 t22:=Tryz.underlying165
 a22:=Tryz.isAgg165
 z22:=Tryz.sizeOf165
 v22:=Tryz.zeroValue165 }
def Tryz.laysSort_ren:Go.Shelf.Ren:=⟨fun | 53=>236 | 64=>239 | 63=>238 | 78=>253 | 79=>254 | 70=>244 | 71=>245 | 72=>246 | 73=>247 | 74=>248 | 75=>249 | 59=>250 | 76=>251 | 77=>252 | 88=>257 | 89=>258 | 90=>259 | 91=>260 | 92=>261 | 68=>262 | 96=>263 | n=>n,fun | 22=>165 | 23=>2 | 3=>3 | 51=>99 | 0=>0 | 67=>221 | 69=>220 | 4=>4 | 61=>280 | 60=>279 | 44=>285 | 5=>5 | 9=>9 | 75=>290 | 79=>294 | 83=>296 | 84=>297 | n=>n,fun | n=>n⟩
theorem Tryz.laysSort:Go.Proofs.SlLaysN.n53 Tryz.prog Tryz.laysSort_ren:={
 mixed:=by kernel_rfl
 f53:=⟨Tryz.f236.name,by decide,Tryz.func236.trans (congrArg some (by kernel_rfl))⟩
 f59:=⟨Tryz.f250.name,by decide,Tryz.func250.trans (congrArg some (by kernel_rfl))⟩
 f63:=⟨Tryz.f238.name,by decide,Tryz.func238.trans (congrArg some (by kernel_rfl))⟩
 f64:=Tryz.func239.trans (congrArg some (by kernel_rfl))
 f68:=⟨Tryz.f262.name,by decide,Tryz.func262.trans (congrArg some (by kernel_rfl))⟩
 f70:=⟨Tryz.f244.name,by decide,Tryz.func244.trans (congrArg some (by kernel_rfl))⟩
 f71:=⟨Tryz.f245.name,by decide,Tryz.func245.trans (congrArg some (by kernel_rfl))⟩
 f72:=⟨Tryz.f246.name,by decide,Tryz.func246.trans (congrArg some (by kernel_rfl))⟩
 f73:=⟨Tryz.f247.name,by decide,Tryz.func247.trans (congrArg some (by kernel_rfl))⟩
 f74:=⟨Tryz.f248.name,by decide,Tryz.func248.trans (congrArg some (by kernel_rfl))⟩
 f75:=⟨Tryz.f249.name,by decide,Tryz.func249.trans (congrArg some (by kernel_rfl))⟩
 f76:=⟨Tryz.f251.name,by decide,Tryz.func251.trans (congrArg some (by kernel_rfl))⟩
 f77:=⟨Tryz.f252.name,by decide,Tryz.func252.trans (congrArg some (by kernel_rfl))⟩
 f78:=Tryz.func253.trans (congrArg some (by kernel_rfl))
 f79:=Tryz.func254.trans (congrArg some (by kernel_rfl))
 f88:=⟨Tryz.f257.name,by decide,Tryz.func257.trans (congrArg some (by kernel_rfl))⟩
 f89:=Tryz.func258.trans (congrArg some (by kernel_rfl))
 f90:=Tryz.func259.trans (congrArg some (by kernel_rfl))
 f91:=⟨Tryz.f260.name,by decide,Tryz.func260.trans (congrArg some (by kernel_rfl))⟩
 f92:=⟨Tryz.f261.name,by decide,Tryz.func261.trans (congrArg some (by kernel_rfl))⟩
 f96:=⟨Tryz.f263.name,by decide,Tryz.func263.trans (congrArg some (by kernel_rfl))⟩
 t0:=Tryz.underlying0
 a0:=Tryz.isAgg0
 z0:=Tryz.sizeOf0
 v0:=Tryz.zeroValue0
 t3:=Tryz.underlying3
 a3:=Tryz.isAgg3
 z3:=Tryz.sizeOf3
 v3:=Tryz.zeroValue3
 t4:=Tryz.underlying4
 a4:=Tryz.isAgg4
 z4:=Tryz.sizeOf4
 v4:=Tryz.zeroValue4
 t5:=Tryz.underlying5
 a5:=Tryz.isAgg5
 z5:=Tryz.sizeOf5
 v5:=Tryz.zeroValue5
 t9:=Tryz.underlying9
 a9:=Tryz.isAgg9
 z9:=Tryz.sizeOf9
 v9:=Tryz.zeroValue9
 t22:=Tryz.underlying165
 a22:=Tryz.isAgg165
 z22:=Tryz.sizeOf165
 v22:=Tryz.zeroValue165
 t23:=Tryz.underlying2
 a23:=Tryz.isAgg2
 z23:=Tryz.sizeOf2
 v23:=Tryz.zeroValue2
 t44:=Tryz.underlying285
 a44:=Tryz.isAgg285
 z44:=Tryz.sizeOf285
 v44:=Tryz.zeroValue285
 t51:=Tryz.underlying99
 a51:=Tryz.isAgg99
 z51:=Tryz.sizeOf99
 v51:=Tryz.zeroValue99
 t60:=Tryz.underlying279
 a60:=Tryz.isAgg279
 z60:=Tryz.sizeOf279
 v60:=Tryz.zeroValue279
 t61:=Tryz.underlying280
 a61:=Tryz.isAgg280
 z61:=Tryz.sizeOf280
 v61:=Tryz.zeroValue280
 t67:=Tryz.underlying221
 a67:=Tryz.isAgg221
 z67:=Tryz.sizeOf221
 v67:=Tryz.zeroValue221
 t69:=Tryz.underlying220
 a69:=Tryz.isAgg220
 z69:=Tryz.sizeOf220
 v69:=Tryz.zeroValue220
 t75:=Tryz.underlying290
 a75:=Tryz.isAgg290
 z75:=Tryz.sizeOf290
 v75:=Tryz.zeroValue290
 t79:=Tryz.underlying294
 a79:=Tryz.isAgg294
 z79:=Tryz.sizeOf294
 v79:=Tryz.zeroValue294
 t83:=Tryz.underlying296
 a83:=Tryz.isAgg296
 z83:=Tryz.sizeOf296
 v83:=Tryz.zeroValue296
 t84:=Tryz.underlying297
 a84:=Tryz.isAgg297
 z84:=Tryz.sizeOf297
 v84:=Tryz.zeroValue297 }
def Tryz.laysCloneB_ren:Go.Shelf.Ren:=⟨fun | 4=>156 | n=>n,fun | 22=>103 | 4=>4 | 5=>5 | n=>n,fun | n=>n⟩
theorem Tryz.laysCloneB:Go.Proofs.SlLaysK.n4 Tryz.prog Tryz.laysCloneB_ren:={
 mixed:=by kernel_rfl
 f4:=Tryz.func156.trans (congrArg some (by kernel_rfl))
 t4:=Tryz.underlying4
 a4:=Tryz.isAgg4
 z4:=Tryz.sizeOf4
 v4:=Tryz.zeroValue4
 t22:=Tryz.underlying103
 a22:=Tryz.isAgg103
 z22:=Tryz.sizeOf103
 v22:=Tryz.zeroValue103
 t5:=Tryz.underlying5
 i5:=by kernel_rfl }
def Tryz.laysEqualB_ren:Go.Shelf.Ren:=⟨fun | 115=>161 | n=>n,fun | 37=>103 | 4=>4 | 9=>9 | 5=>5 | n=>n,fun | n=>n⟩
theorem Tryz.laysEqualB:Go.Proofs.Lays.nb115 Tryz.prog Tryz.laysEqualB_ren:={
 mixed:=by kernel_rfl
 f115:=Tryz.func161.trans (congrArg some (by kernel_rfl))
 t4:=Tryz.underlying4
 a4:=Tryz.isAgg4
 z4:=Tryz.sizeOf4
 v4:=Tryz.zeroValue4
 t9:=Tryz.underlying9
 a9:=Tryz.isAgg9
 z9:=Tryz.sizeOf9
 v9:=Tryz.zeroValue9
 t37:=Tryz.underlying103
 a37:=Tryz.isAgg103
 z37:=Tryz.sizeOf103
 v37:=Tryz.zeroValue103
 t5:=Tryz.underlying5
 a5:=Tryz.isAgg5
 z5:=Tryz.sizeOf5
 v5:=Tryz.zeroValue5 }
def Tryz.laysCut_ren:Go.Shelf.Ren:=⟨fun | 145=>231 | 220=>234 | 219=>237 | 217=>240 | 225=>241 | 224=>242 | 267=>243 | 266=>255 | 314=>256 | n=>n,fun | 9=>9 | 4=>4 | 59=>257 | 3=>3 | 5=>5 | 46=>99 | 146=>288 | 51=>221 | n=>n,fun | 1=>0 | n=>n⟩
theorem Tryz.laysCut:Go.Proofs.Lays.n145 Tryz.prog Tryz.laysCut_ren:={
 mixed:=by kernel_rfl
 f145:=Tryz.func231.trans (congrArg some (by kernel_rfl))
 f217:=Tryz.func240.trans (congrArg some (by kernel_rfl))
 f219:=Tryz.func237.trans (congrArg some (by kernel_rfl))
 f220:=Tryz.func234.trans (congrArg some (by kernel_rfl))
 f224:=Tryz.func242.trans (congrArg some (by kernel_rfl))
 f225:=Tryz.func241.trans (congrArg some (by kernel_rfl))
 f266:=Tryz.func255.trans (congrArg some (by kernel_rfl))
 f267:=Tryz.func243.trans (congrArg some (by kernel_rfl))
 f314:=Tryz.func256.trans (congrArg some (by kernel_rfl))
 t3:=Tryz.underlying3
 a3:=Tryz.isAgg3
 z3:=Tryz.sizeOf3
 v3:=Tryz.zeroValue3
 t4:=Tryz.underlying4
 a4:=Tryz.isAgg4
 z4:=Tryz.sizeOf4
 v4:=Tryz.zeroValue4
 t5:=Tryz.underlying5
 a5:=Tryz.isAgg5
 z5:=Tryz.sizeOf5
 v5:=Tryz.zeroValue5
 t9:=Tryz.underlying9
 a9:=Tryz.isAgg9
 z9:=Tryz.sizeOf9
 v9:=Tryz.zeroValue9
 t46:=Tryz.underlying99
 a46:=Tryz.isAgg99
 z46:=Tryz.sizeOf99
 v46:=Tryz.zeroValue99
 t51:=Tryz.underlying221
 a51:=Tryz.isAgg221
 z51:=Tryz.sizeOf221
 v51:=Tryz.zeroValue221
 t59:=Tryz.underlying257
 a59:=Tryz.isAgg257
 z59:=Tryz.sizeOf257
 v59:=Tryz.zeroValue257
 t146:=Tryz.underlying288
 a146:=Tryz.isAgg288
 z146:=Tryz.sizeOf288
 v146:=Tryz.zeroValue288
 g1:=by kernel_rfl }
end Go.Proofs
namespace Go.Proofs.YtbonjbokofkafaaGreat
section
open Go.RowKit
theorem Za6 {a b:ByteArray} (h:a.data.toList=b.data.toList):a=b:=ByteArray.ext (Array.toList_inj.1 h)
def eqAt (s:ByteArray):Int:=Lib.indexByte s.data.toList 61
def Z2z (s:ByteArray):ByteArray × ByteArray × Bool:=
 if 1≤eqAt s then (s.extract 0 (eqAt s).toNat,s.extract ((eqAt s).toNat+1) s.size,true) else (ByteArray.empty,ByteArray.empty,false)
theorem Z7w:∀ (l:List UInt8) (c:UInt8),(Lib.indexByte l c = -1∧c ∉ l)∨(∃ i:Nat,Lib.indexByte l c=i∧∃ h:i<l.length,l[i]=c∧c ∉ l.take i):=by
 intro l c
 induction l with
 | nil=>exact .inl ⟨rfl,by simp⟩
 | cons b l ih=>
   unfold Lib.indexByte
   by_cases h:b=c
   ·subst h
    exact .inr ⟨0,by simp,by simp,rfl,by simp⟩
   ·have hb:(b==c)=false:=by simpa using h
    rw [hb]
    rcases ih with ⟨e,hn⟩ | ⟨i,e,hi,h1,h2⟩
    ·rw [e]
     refine .inl ⟨rfl,?_⟩
     simp only [List.mem_cons,not_or]
     exact⟨fun e=>h e.symm,hn⟩
    ·rw [e]
     refine .inr ⟨i+1,?_,by rw [List.length_cons];omega,by simpa using h1,?_⟩
     ·have:((i:Int) == -1)=false:=by simp<;>omega
      simp [this]
     ·rw [List.take_succ_cons,List.mem_cons,not_or]
      exact⟨fun e=>h e.symm,h2⟩
theorem Z17 (s:ByteArray):s.data.toList.length=s.size:=Array.length_toList
theorem Zfe (s:ByteArray):eqAt s = -1∨∃ i:Nat,eqAt s=i∧i<s.size:=by
 rcases Z7w s.data.toList 61 with ⟨e,_⟩ | ⟨i,e,hi,_⟩
 ·exact .inl e
 ·exact .inr ⟨i,e,by rw [← Z17];exact hi⟩
theorem Z8d (s:ByteArray):(Z2z s).1.size≤s.size∧(Z2z s).2.1.size≤s.size:=by
 unfold Z2z
 split
 ·simp only [ByteArray.size_extract]
  omega
 ·simp
abbrev Tb:=List (ByteArray × ByteArray)
abbrev nm (p:ByteArray × ByteArray):List UInt8:=p.1.data.toList
def UpT (L:Tb):Prop:=L.Pairwise fun p q=>nm p<nm q
def Zff (a b:ByteArray):Tb→Tb
 | []=>[(a,b)]
 | p :: r=>if a.data.toList<nm p then (a,b) :: p :: r else p :: Zff a b r
def Zh2 (a:ByteArray) (L:Tb):Tb:=L.filter fun p => !(nm p==a.data.toList)
def doT (L:Tb) (a b:ByteArray):Tb:=if b.size=0 then Zh2 a L else Zff a b (Zh2 a L)
def Zhr (L:Tb) (a:ByteArray):ByteArray × Bool:=match L.find? (fun p=>nm p==a.data.toList) with
 | some p=>(p.2,true)
 | none=>(ByteArray.empty,false)
theorem Zhs (a b:ByteArray) (L:Tb):∀ x,x ∈ Zff a b L↔x=(a,b)∨x ∈ L:=by
 induction L with
 | nil=>intro x;simp [Zff]
 | cons p r ih=>
   intro x
   unfold Zff
   split
   ·simp
   ·rw [List.mem_cons,ih,List.mem_cons]
    constructor
    ·rintro (h | h | h)
     ·exact .inr (.inl h)
     ·exact .inl h
     ·exact .inr (.inr h)
    ·rintro (h | h | h)
     ·exact .inr (.inl h)
     ·exact .inl h
     ·exact .inr (.inr h)
theorem Zht {a b:List UInt8} (h:¬ a<b) (hne:b≠a):b<a:=by
 refine Classical.byContradiction fun h2=>hne ?_
 exact List.le_antisymm (List.not_lt.1 h) (List.not_lt.1 h2)
theorem ins_up {a b:ByteArray} {L:Tb} (hu:UpT L) (hn:∀ p ∈ L,nm p≠a.data.toList):UpT (Zff a b L):=by
 induction L with
 | nil=>exact List.pairwise_singleton _ _
 | cons p r ih=>
   obtain⟨h1,h2⟩:=List.pairwise_cons.1 hu
   unfold Zff
   split
   ·rename_i h
    refine List.pairwise_cons.2 ⟨fun x hx=>?_,hu⟩
    rcases List.mem_cons.1 hx with rfl | hx
    ·exact h
    ·exact List.lt_trans h (h1 x hx)
   ·rename_i h
    refine List.pairwise_cons.2 ⟨fun x hx=>?_,ih h2 (fun q hq=>hn q (List.mem_cons_of_mem _ hq))⟩
    rcases (Zhs a b r x).1 hx with rfl | hx
    ·exact Zht h (hn p List.mem_cons_self)
    ·exact h1 x hx
theorem del_up {a:ByteArray} {L:Tb} (hu:UpT L):UpT (Zh2 a L):=List.Pairwise.filter _ hu
theorem del_ne (a:ByteArray) (L:Tb):∀ p ∈ Zh2 a L,nm p≠a.data.toList:=by
 intro p hp
 have:=(List.mem_filter.1 hp).2
 simpa using this
theorem do_up {L:Tb} {a b:ByteArray} (hu:UpT L):UpT (doT L a b):=by
 unfold doT
 split
 ·exact del_up hu
 ·exact ins_up (del_up hu) (del_ne a L)
theorem ins_len (a b:ByteArray) (L:Tb):(Zff a b L).length=L.length+1:=by
 induction L with
 | nil=>rfl
 | cons p r ih=>unfold Zff;split<;>simp [ih]
theorem do_len (L:Tb) (a b:ByteArray):(doT L a b).length≤L.length+1:=by
 have:=List.length_filter_le (fun p => !(nm p==a.data.toList)) L
 unfold doT
 split
 ·unfold Zh2;omega
 ·rw [ins_len];unfold Zh2;omega
theorem do_small {L:Tb} {a b:ByteArray} (h:∀ p ∈ L,p.1.size≤16∧p.2.size≤16) (ha:a.size≤16) (hb:b.size≤16):∀ p ∈ doT L a b,p.1.size≤16∧p.2.size≤16:=by
 intro p hp
 unfold doT at hp
 split at hp
 ·exact h p (List.mem_filter.1 hp).1
 ·rcases (Zhs _ _ _ _).1 hp with rfl | hp
  ·exact⟨ha,hb⟩
  ·exact h p (List.mem_filter.1 hp).1
abbrev litP (p:ByteArray × ByteArray):Lit × DataW Unit:=(.string p.1.data.toList, .lit (.string p.2.data.toList))
def Zbw (L:Tb):DataW Unit:=.map (L.map litP)
theorem Za7:∀ a b:List UInt8,bytesBefore a b=decide (a<b)
 | [],[]=>by simp [bytesBefore]
 | [],_ :: _=>by simp [bytesBefore]
 | _ :: _,[]=>by simp [bytesBefore]
 | a :: r,b :: s=>by
   unfold bytesBefore
   rw [Za7 r s,Bool.eq_iff_iff]
   simp only [Bool.or_eq_true,Bool.and_eq_true,decide_eq_true_eq,beq_iff_eq,List.cons_lt_cons_iff]
theorem del_D (L:Tb) (a:ByteArray):(Zbw L).del (.string a.data.toList)=Zbw (Zh2 a L):=by
 unfold Zbw DataW.del Zh2
 simp only [DataW.map.injEq]
 rw [List.filter_map]
 rfl
theorem ins_D (a b:ByteArray) (L:Tb):DataW.insert (litP (a,b)) (L.map litP)=(Zff a b L).map litP:=by
 induction L with
 | nil=>rfl
 | cons p r ih=>
   rw [List.map_cons]
   unfold DataW.insert Zff
   show (if bytesBefore a.data.toList p.1.data.toList=true then _ else _)=_
   rw [Za7]
   by_cases h:a.data.toList<p.1.data.toList
   ·rw [if_pos (by simpa using h),if_pos h];rfl
   ·rw [if_neg (by simpa using h),if_neg h,ih];rfl
theorem put_D (L:Tb) (a b:ByteArray):(Zbw L).put (.string a.data.toList) (.lit (.string b.data.toList))=Zbw (Zff a b (Zh2 a L)):=by
 unfold Zbw DataW.put
 simp only [DataW.map.injEq]
 rw [← ins_D]
 congr 1
 unfold Zh2
 rw [List.filter_map]
 rfl
theorem find_D (L:Tb) (a:ByteArray):(L.map litP).find? (fun p=>p.1.sameKey (.string a.data.toList))=(L.find? (fun p=>nm p==a.data.toList)).map litP:=by
 rw [List.find?_map]
 rfl
theorem at_D (L:Tb) (a:ByteArray):(Zbw L).atKey (.string a.data.toList) (.lit (.string []))=.lit (.string (Zhr L a).1.data.toList):=by
 unfold Zbw DataW.atKey Zhr
 simp only
 rw [find_D]
 cases L.find? (fun p=>nm p==a.data.toList)<;>rfl
theorem has_D (L:Tb) (a:ByteArray):Maps.has (Zbw L) (.string a.data.toList)=(Zhr L a).2:=by
 unfold Zbw Zhr
 have h:(L.map litP).any (fun p=>p.1.sameKey (.string a.data.toList))=((L.map litP).find? (fun p=>p.1.sameKey (.string a.data.toList))).isSome:=by
  rw [Bool.eq_iff_iff,List.find?_isSome,List.any_eq_true]
 rw [Maps.has_eq,h,find_D]
 cases L.find? (fun p=>nm p==a.data.toList)<;>rfl
theorem size_D (L:Tb):Maps.size (Zbw L)=L.length:=by
 unfold Zbw
 rw [Maps.size_eq,List.length_map]
def Zfg (s:ByteArray):List UInt8:=UInt8.ofNat (2*s.size) :: s.data.toList
def Za8 (x:Nat):Nat:=if x % 2=1 then (x / 2) ^^^ 3988292384 else x / 2
def Z2q:Nat→Nat→Nat
 | 0,x=>x
 | n+1,x=>Za8 (Z2q n x)
def Z4k (x:Nat) (b:UInt8):Nat:=Z2q 8 (x ^^^ b.toNat)
def Ze0 (l:List UInt8):Nat:=4294967295 ^^^ l.foldl Z4k 4294967295
theorem Z74 {a b:Nat} (ha:a<4294967296) (hb:b<4294967296):a ^^^ b<4294967296:=Nat.xor_lt_two_pow (n:=32) ha hb
theorem stepC_lt {x:Nat} (h:x<4294967296):Za8 x<4294967296:=by
 unfold Za8
 split
 ·exact Z74 (by omega) (by omega)
 ·omega
theorem Z55 {x:Nat} (h:x<4294967296):∀ n,Z2q n x<4294967296
 | 0=>h
 | n+1=>stepC_lt (Z55 h n)
theorem byteC_lt {x:Nat} (h:x<4294967296) (b:UInt8):Z4k x b<4294967296:=Z55 (Z74 h (by have:=b.toNat_lt;omega)) 8
theorem Z32:∀ (l:List UInt8) {x:Nat},x<4294967296→l.foldl Z4k x<4294967296
 | [],_,h=>h
 | b :: l,_,h=>Z32 l (byteC_lt h b)
end
section
open Go.RowKit Go.Maps Go.Sort Go.Shelf
theorem Z91 (s:ByteArray) (m:Int) (w:World) (hs:s.size<4294967281) (hm:w.cell? ⟨0,0,none⟩=some (.int .i64 m)) :
  Calls Tryz.prog 231 #[.string s, .string ⟨#[61]⟩] w fun e w'=>(e=.returned (.tuple #[.string ⟨(Lib.cut s.data.toList [61]).1.toArray⟩, .string ⟨(Lib.cut s.data.toList [61]).2.1.toArray⟩, .bool (Lib.cut s.data.toList [61]).2.2]))∧∃ n,w'=w.drewN n:=
 Any.strings_Cut Tryz.laysCut s ⟨#[61]⟩ m w hs hm
end
section
open Go.RowKit Go.Maps Go.Shelf
theorem Zhu:Keyed Tryz.prog 9:=string_keyed Tryz.underlying9
theorem sKey {a:ByteArray} (h:a.size≤1000):keyOf Tryz.prog 9 (.string a)=some (.string a.data.toList):=by
 have:a.size≤maxLen:=by unfold maxLen;omega
 simp [keyOf,Tryz.underlying9,mapKey,this]
theorem sElem {a:ByteArray} (h:a.size≤1000):(plainElem (H:=Unit) Tryz.prog 9) (.string a)=some (.lit (.string a.data.toList),[]):=
 plainElem_string Tryz.underlying9 (by unfold maxLen;omega)
theorem sNe {a:ByteArray} (h:¬ a=ByteArray.empty):a.toList.isEmpty=false:=by
 rw [ByteArray.toList_eq]
 cases hl:a.data.toList with
 | nil=>exact absurd (Za6 (by rw [hl];rfl)) h
 | cons x l=>rfl
theorem sNil:(ByteArray.empty).toList.isEmpty=true:=by rw [ByteArray.toList_eq];rfl
structure TbO (w:World) (q tb:Nat) (L:Tb):Prop where
 ptr:w.heap[q]?=some (.cells #[.map (some tb)] 132 (0,0))
 own:∃ n,w.ownsMap Tryz.prog 9 (plainElem (H:=Unit) Tryz.prog 9) tb n (Zbw L)
 up:UpT L
 small:∀ p ∈ L,p.1.size≤16∧p.2.size≤16
theorem TbO.ne {w:World} {q tb:Nat} {L:Tb} (h:TbO w q tb L):q≠tb:=fun e=>by
 obtain⟨n,es,clock,hb,_⟩:=h.own
 have:=h.ptr
 rw [e,hb] at this
 cases this
theorem TbO.ltq {w:World} {q tb:Nat} {L:Tb} (h:TbO w q tb L):q<w.heap.size:=Z04 h.ptr
theorem TbO.ltb {w:World} {q tb:Nat} {L:Tb} (h:TbO w q tb L):tb<w.heap.size:=by
 obtain⟨n,hn⟩:=h.own
 exact hn.lt
theorem Za9 {w w':World} {tb n:Nat} {D:DataW Unit} (h:w.ownsMap Tryz.prog 9 (plainElem (H:=Unit) Tryz.prog 9) tb n D) (hb:Below w.heap.size w w'):w'.ownsMap Tryz.prog 9 (plainElem (H:=Unit) Tryz.prog 9) tb n D:=
 h.kept (row:=none) ⟨hb.os,hb.tape,hb.output,hb.size,fun k hk _=>hb.block k hk⟩ (by simp)
theorem TbO.grow {w w':World} {q tb:Nat} {L:Tb} (h:TbO w q tb L) (hb:Below w.heap.size w w'):TbO w' q tb L:=by
 obtain⟨n,hn⟩:=h.own
 exact⟨Z02 h.ptr hb,⟨n,Za9 hn hb⟩,h.up,h.small⟩
theorem TbO.tight {w:World} {q tb:Nat} {L:Tb} (h:TbO w q tb L):w.ownsMap Tryz.prog 9 (plainElem (H:=Unit) Tryz.prog 9) tb L.length (Zbw L):=by
 obtain⟨n,es,a0,hb,F,hs,hD⟩:=h.own
 refine⟨es,a0,hb,F,?_,hD⟩
 have h1:Maps.size (Zbw L)=L.length:=size_D L
 rw [hD] at h1
 have h2:Maps.size (H:=Unit) (.map ((es.toList.map (WideElems.rg Tryz.prog 9 (plainElem (H:=Unit) Tryz.prog 9))).foldr DataW.insert []))=es.size:=by simp [Maps.size,length_sorted]
 omega
theorem TbO.turn {w w':World} {q tb n:Nat} {L L':Tb} (h:TbO w q tb L) (hm:w.mapTurned w' tb) (ho:w'.ownsMap Tryz.prog 9 (plainElem (H:=Unit) Tryz.prog 9) tb n (Zbw L')) (hu:UpT L') (hs:∀ p ∈ L',p.1.size≤16∧p.2.size≤16) :
  TbO w' q tb L'∧Chg (fun j=>j=tb) w w':=by
 have hg:=hm.grown
 have hc:Chg (fun j=>j=tb) w w':=⟨hg.os,hg.tape,hg.output,hg.size,fun k hk hF=>hg.block k hk (by simpa using hF)⟩
 exact⟨⟨Z0g h.ptr hc h.ne,⟨n,ho⟩,hu,hs⟩,hc⟩
theorem tNew_any (w:World):Calls Tryz.prog 95 #[] w fun r w'=>∃ q tb,r=.returned (.pointer (some ⟨q,0,none⟩))∧TbO w' q tb []∧w.heap.size≤q∧w.heap.size≤tb∧Below w.heap.size w w':=by
 have hmm:=@run_makeMap Tryz.prog
 have a0:=World.ownsMap_made (H:=Unit) w Tryz.prog 9 (plainElem (H:=Unit) Tryz.prog 9)
 obtain⟨w1,d0⟩:∃ W,W=w.alloc (.map #[] 0):=⟨_,rfl⟩
 have g0:Below w.heap.size w w1:=d0 ▸ (Below.refl _ _).alloc (Nat.le_refl _) _
 obtain⟨w2,c0⟩:∃ W,W=w1.alloc (.cells #[.map (some w.heap.size)] 132):=⟨_,rfl⟩
 have e0:Below w1.heap.size w1 w2:=c0 ▸ (Below.refl _ _).alloc (Nat.le_refl _) _
 have hx:w2.heap[w1.heap.size]?=some (.cells #[.map (some w.heap.size)] 132 (0,0)):=c0 ▸ Z0a _ _
 rw [← d0] at a0
 have h0:=Za9 a0 e0
 have f0:=g0.size
 have b0:∃ q tb,Ending.returned (.pointer (some ⟨w1.heap.size,0,none⟩))=Ending.returned (.pointer (some ⟨q,0,none⟩))∧TbO w2 q tb []∧w.heap.size≤q∧w.heap.size≤tb∧Below w.heap.size w w2:=
  ⟨_,_,rfl,⟨hx,⟨0,h0⟩,List.Pairwise.nil,by simp⟩,f0,Nat.le_refl _,g0.trans (e0.mono f0)⟩
 rw [c0,d0] at b0
 replace b0:=hd_ b0;clear hx h0 a0 g0 e0 f0
 subst c0 d0
 go_enter Tryz.func95,Tryz.ntmps95
 go_wp2
 go_ret
 obtain⟨q,tb,e,h⟩:=b0.out
 exact⟨q,tb,Eq.trans (by simp) e,h⟩
theorem Zhv (s:ByteArray) (m:Int) (w:World) (hs:s.size<4294967281) (hm:w.cell? ⟨0,0,none⟩=some (.int .i64 m)) :
  Calls Tryz.prog 216 #[.string s] w fun r w'=>r=.returned (.tuple #[.string (Z2z s).1, .string (Z2z s).2.1, .bool (Z2z s).2.2])∧Below w.heap.size w w':=by
 have hB:=hd_ (Below.refl w.heap.size w)
 have h1:Lib.indexB s ⟨#[61]⟩=eqAt s:=Lib.index_one _ _
 rcases Zfe s with h | ⟨i,h,hi⟩
 ·rw [h] at h1
  obtain⟨e1,e2,e3⟩:=Lib.cutB_miss s _ h1
  have hw:Z2z s=(ByteArray.empty,ByteArray.empty,false):=by unfold Z2z;rw [h];rfl
  rw [hw]
  replace hw:=hd_ hw;replace e1:=hd_ e1;replace e2:=hd_ e2;replace e3:=hd_ e3;clear h1 h
  go_enter Tryz.func216,Tryz.ntmps216
  go_wp2_with fail
  refine (Z91 s m w hs hm).mono ?_
  rintro r w1 ⟨rfl,n,rfl⟩
  rw [show (Lib.cut s.data.toList [61]).2.2=false from e3.out]
  go_wp2
  exact bodyPost_ret (v:=.tuple #[.string ByteArray.empty, .string ByteArray.empty, .bool false]) (by simp [results,Tryz.results216,go_sem];rfl) rfl ⟨rfl,below_drewN hB.out _⟩
 ·rw [h] at h1
  obtain⟨e1,e2,e3⟩:=Lib.cutB_hit s _ i h1
  replace e1:=hd_ e1;replace e2:=hd_ e2;replace e3:=hd_ e3;clear h1
  by_cases h0:i=0
  ·have hw:Z2z s=(ByteArray.empty,ByteArray.empty,false):=by unfold Z2z;rw [h,h0];rfl
   rw [hw]
   have hz:s.extract 0 i=ByteArray.empty:=by rw [h0];exact Za6 (by simp)
   replace hw:=hd_ hw;replace hz:=hd_ hz;clear h h0
   go_enter Tryz.func216,Tryz.ntmps216
   go_wp2_with fail
   refine (Z91 s m w hs hm).mono ?_
   rintro r w1 ⟨rfl,n,rfl⟩
   rw [show (Lib.cut s.data.toList [61]).2.2=true from e3.out,show (⟨(Lib.cut s.data.toList [61]).1.toArray⟩:ByteArray)=s.extract 0 i from e1.out,hz.out]
   go_wp2
   exact bodyPost_ret (v:=.tuple #[.string ByteArray.empty, .string ByteArray.empty, .bool false]) (by simp [results,Tryz.results216,go_sem];rfl) rfl ⟨rfl,below_drewN hB.out _⟩
  ·have hw:Z2z s=(s.extract 0 i,s.extract (i+1) s.size,true):=by unfold Z2z;rw [h,if_pos (by omega)];rfl
   rw [hw]
   obtain⟨a,ha⟩:∃ a,s.extract 0 i=a:=⟨_,rfl⟩
   obtain⟨b,hb⟩:∃ b,s.extract (i+1) s.size=b:=⟨_,rfl⟩
   have a0:¬ a=ByteArray.empty:=fun e=>by
    have h2:(s.extract 0 i).size=0:=by rw [ha,e];rfl
    rw [ByteArray.size_extract] at h2
    omega
   rw [ha,hb]
   have c0:Hid ((⟨(Lib.cut s.data.toList [61]).1.toArray⟩:ByteArray)=a):=hd_ (Eq.trans e1.out ha)
   have b0:Hid ((⟨(Lib.cut s.data.toList [61]).2.1.toArray⟩:ByteArray)=b):=hd_ (Eq.trans e2.out hb)
   clear e1 e2 hw h h0 ha hb
   have hd:a.toList.isEmpty=false:=sNe a0
   go_enter Tryz.func216,Tryz.ntmps216
   go_wp2_with fail
   refine (Z91 s m w hs hm).mono ?_
   rintro r w1 ⟨rfl,n,rfl⟩
   rw [show (Lib.cut s.data.toList [61]).2.2=true from e3.out,c0.out,b0.out]
   go_wp2
   exact bodyPost_ret (v:=.tuple #[.string a, .string b, .bool true]) (by simp [results,Tryz.results216,go_sem]) rfl ⟨rfl,below_drewN hB.out _⟩
theorem tGet_any (q tb:Nat) (L:Tb) (a:ByteArray) (w:World) (h:TbO w q tb L) (ha:a.size≤1000) :
  Calls Tryz.prog 37 #[.pointer (some ⟨q,0,none⟩), .string a] w fun r w'=>r=.returned (.tuple #[.string (Zhr L a).1, .bool (Zhr L a).2])∧w=w':=by
 have c0:=Z00 h.ptr 0
 simp only [List.getElem?_toArray,List.getElem?_cons_zero] at c0
 have d0:=h.tight
 have b0:=at_D L a
 have a0:=has_D L a
 clear h;replace b0:=hd_ b0;replace a0:=hd_ a0
 go_enter Tryz.func37,Tryz.ntmps37
 go_wp2_with (first
  | (at_lookup;refine wpList_lookup_own_ok _ rfl _ _ 130 rfl 9 9 Zhu Tryz.underlying130 (plainElem (H:=Unit) Tryz.prog 9) (by exact Tryz.zeroValue9 _) (.lit (.string [])) [] (by exact sElem (a:=ByteArray.empty) (by decide)) tb _ _ rfl d0 _ _ rfl (sKey ha) ?_;intro v ps hv))
 obtain⟨c,rfl,hc,_⟩:=plainElem_string_inv Tryz.underlying9 hv
 have e:=congrArg Prod.fst hc
 rw [b0.out] at e
 have e0:(Zhr L a).1=c:=by
  simp only [DataW.lit.injEq,Lit.string.injEq] at e
  exact Za6 e
 rw [a0.out,e0]
 clear hc e e0 hv b0 a0
 generalize (Zhr L a).2=f
 go_wp2
 exact bodyPost_ret (v:=.tuple #[.string c, .bool f]) (by simp [results,Tryz.results37,go_sem]) rfl ⟨rfl,rfl⟩
end
section
open Go.RowKit Go.Maps
def okDo (e:Ent):Bool:=(Z2z e.data).2.2&&Z2l e
def Z75 (L:Tb) (e:Ent):Tb:=if okDo e=true then doT L (Z2z e.data).1 (Z2z e.data).2.1 else L
theorem Z1l {e:Ent} (h:Z2l e=true):e.data.size≤16:=by
 rw [Zc4] at h
 simp only [Bool.and_eq_true,decide_eq_true_eq] at h
 omega
theorem next_len (L:Tb) (e:Ent):(Z75 L e).length≤L.length+1:=by
 unfold Z75
 split
 ·exact do_len _ _ _
 ·omega
theorem next_up {L:Tb} (h:UpT L) (e:Ent):UpT (Z75 L e):=by
 unfold Z75
 split
 ·exact do_up h
 ·exact h
theorem Zfh {L:Tb} (h:∀ p ∈ L,p.1.size≤16∧p.2.size≤16) (e:Ent):∀ p ∈ Z75 L e,p.1.size≤16∧p.2.size≤16:=by
 unfold Z75
 split
 ·rename_i hk
  unfold okDo at hk
  have h16:=Z1l (Bool.and_eq_true_iff.1 hk).2
  have hz:=Z8d e.data
  exact do_small h (by omega) (by omega)
 ·exact h
theorem tDo_gen (q tb:Nat) (L:Tb) (e:Ent) (m:Int) (w:World) (h:TbO w q tb L) (hl:L.length≤1000000000000) (hm:w.cell? ⟨0,0,none⟩=some (.int .i64 m)) (hs:e.data.size<4294967281) :
  Calls Tryz.prog 186 #[.pointer (some ⟨q,0,none⟩),e.val] w fun r w'=>r=.returned (.bool (okDo e))∧TbO w' q tb (Z75 L e)∧Chg (fun j=>j=tb) w w':=by
 obtain⟨wa,l0⟩:∃ W,W=w.alloc (.cells e.cells.toArray 134):=⟨_,rfl⟩
 have n0:Below w.heap.size w wa:=l0 ▸ (Below.refl _ _).alloc (Nat.le_refl _) _
 have hx:wa.heap[w.heap.size]?=some (.cells e.cells.toArray 134 (0,0)):=l0 ▸ Z0a _ _
 obtain⟨nE,k0⟩:∃ n,n=w.heap.size:=⟨_,rfl⟩
 rw [← k0] at hx
 have t0:wa.cell? ⟨0,0,none⟩=some (.int .i64 m):=by rw [n0.cell (Z0f hm)];exact hm
 have ha:=hd_ (h.grow n0)
 have hB:=hd_ n0
 have e0:=Z4b e
 have f0:okDo e=((Z2z e.data).2.2&&Z2l e):=rfl
 have d0:Z75 L e=if okDo e=true then doT L (Z2z e.data).1 (Z2z e.data).2.1 else L:=rfl
 have j0:=next_up h.up e
 have i0:=Zfh h.small e
 have h0:=@Z1l e
 have o0:=Z8d e.data
 have hW:=fun w' hm'=>Zhv e.data m w' hs hm'
 clear h n0
 obtain⟨a1,a2,a3,a4,a5,a6,s⟩:=e
 simp only [Ent.val] at e0 ⊢
 dsimp only at f0 d0 h0 o0 hW hs
 obtain⟨⟨a,b,k⟩,q0⟩:∃ x,Z2z s=x:=⟨_,rfl⟩
 rw [q0] at f0 d0 o0 hW
 obtain⟨my,s0⟩:∃ x,Z2l (⟨a1,a2,a3,a4,a5,a6,s⟩:Ent)=x:=⟨_,rfl⟩
 rw [s0] at f0 h0 e0
 dsimp only at f0 d0 o0 hW
 generalize Z75 L ⟨a1,a2,a3,a4,a5,a6,s⟩=L' at d0 j0 i0 ⊢
 generalize okDo ⟨a1,a2,a3,a4,a5,a6,s⟩=ok at f0 d0 ⊢
 subst f0;clear q0 s0;replace hx:=hd_ hx;replace d0:=hd_ d0;replace j0:=hd_ j0;replace i0:=hd_ i0;replace h0:=hd_ h0;replace hW:=hd_ hW;replace e0:=hd_ e0
 have c0:=Z00 hx.out 0
 have c1:=Z00 hx.out 1
 have c2:=Z00 hx.out 2
 have c3:=Z00 hx.out 3
 have c4:=Z00 hx.out 4
 have c5:=Z00 hx.out 5
 have c6:=Z00 hx.out 6
 simp only [List.getElem?_toArray,List.getElem?_cons_zero,List.getElem?_cons_succ] at c0 c1 c2 c3 c4 c5 c6
 go_enter Tryz.func186,Tryz.ntmps186
 go_upto_region 1 with (fail)
 rw [← l0,← k0]
 clear l0;replace k0:=hd_ k0;go_wp2_with fail
 refine (hW.out _ t0).mono ?_
 rintro r w2 ⟨rfl,m0⟩;clear c0 c1 c2 c3 c4 c5 c6
 replace hx:=hd_ (Z02 hx.out m0)
 replace ha:=hd_ (ha.out.grow m0)
 replace hB:=hd_ (hB.out.trans (m0.mono hB.out.size))
 clear m0 t0 hW
 have c0:=Z00 hx.out 0
 have c1:=Z00 hx.out 1
 have c2:=Z00 hx.out 2
 have c3:=Z00 hx.out 3
 have c4:=Z00 hx.out 4
 have c5:=Z00 hx.out 5
 have c6:=Z00 hx.out 6
 simp only [List.getElem?_toArray,List.getElem?_cons_zero,List.getElem?_cons_succ] at c0 c1 c2 c3 c4 c5 c6
 cases k with
 | false=>
   have hL:Hid (L'=L):=hd_ (by rw [d0.out];rfl)
   go_wp2
   go_ret
   exact⟨rfl,by rw [hL.out];exact ha.out, .of_below hB.out⟩
 | true=>
   go_wp2_with fail
   refine (e0.out _).mono ?_
   rintro r w3 ⟨rfl,p0⟩;clear c0 c1 c2 c3 c4 c5 c6
   replace ha:=hd_ (ha.out.grow p0)
   replace hB:=hd_ (hB.out.trans (p0.mono hB.out.size))
   clear p0 hx
   cases my with
   | false=>
     have hL:Hid (L'=L):=hd_ (by rw [d0.out];rfl)
     go_wp2
     go_ret
     exact⟨rfl,by rw [hL.out];exact ha.out, .of_below hB.out⟩
   | true=>
     have h16:=h0.out rfl
     have r0:a.size≤1000:=by omega
     have u0:b.size≤1000:=by omega
     have c0:=Z00 ha.out.ptr 0
     simp only [List.getElem?_toArray,List.getElem?_cons_zero] at c0
     have g0:=ha.out.tight
     by_cases hb0:b=ByteArray.empty
     ·subst hb0
      have hL:Hid (L'=Zh2 a L):=hd_ (by rw [d0.out];rfl)
      have hd:=sNil
      have hD:=hd_ (del_D L a)
      go_wp2_with (first
       | (at_delete;refine wpList_delete_own _ rfl _ _ 130 9 rfl 9 Zhu Tryz.underlying130 _ tb _ _ rfl g0 _ _ rfl (sKey r0) ?_;intro w5 a0 b0))
      rw [hD.out,← hL.out] at a0
      go_ret
      have ht:=ha.out.turn b0 a0 j0.out i0.out
      exact⟨rfl,ht.1,(Chg.of_below hB.out).more ht.2 (fun i hi=>.inl hi)⟩
     ·have hL:Hid (L'=Zff a b (Zh2 a L)):=hd_ (by
       rw [d0.out,if_pos (show (true&&true)=true from rfl)]
       unfold doT
       rw [if_neg (fun e=>hb0 (Za6 (by rw [List.length_eq_zero_iff.1 ((Z17 b).trans e)];rfl)))])
      have hd:=sNe hb0
      have hD:=hd_ (put_D L a b)
      have v0:L.length<maxLen:=by unfold maxLen;omega
      clear hb0
      go_wp2_with (first
       | (at_mapUpdate;refine wpList_mapUpdate_in _ rfl _ _ _ 130 rfl 9 9 Zhu Tryz.underlying130 _ tb _ _ rfl g0 v0 _ _ _ rfl rfl (sKey r0) _ [] (sElem u0) ?_;intro w5 a0 b0))
      rw [hD.out,← hL.out] at a0
      go_ret
      have ht:=ha.out.turn b0 a0 j0.out i0.out
      exact⟨rfl,ht.1,(Chg.of_below hB.out).more ht.2 (fun i hi=>.inl hi)⟩
end
section
open Go.RowKit
def Z0q (l:List UInt8):List Value:=l.map fun b=>.int .u8 b.toNat
def ownB (w:World) (base:Nat) (v:Value) (l:List UInt8):Prop:=w.ownsRow base 5 1 v l.length (Z0q l)
theorem Z0t (l m:List UInt8):Z0q (l++m)=Z0q l++Z0q m:=List.map_append
theorem Z1p:(Tryz.prog.info? 5).map (fun i=>(i.zero,i.size,i.bytes))=some (some (.int .u8 0),1,1):=by kernel_rfl
theorem ownB.grow {w w':World} {base:Nat} {v:Value} {l:List UInt8} (h:ownB w base v l) (hb:Below w.heap.size w w'):ownB w' base v l:=
 World.ownsRow.kept h (row:=none) ⟨hb.os,hb.tape,hb.output,hb.size,fun k hk _=>hb.block k hk⟩ (by cases v.ownBlock with | none=>exact .inl rfl | some k=>exact .inr (by simp))
theorem nPut_any (v:Value) (l:List UInt8) (base n:Nat) (w:World) (h:ownB w base v l) (hb:base≤w.heap.size) (hl:l.length≤100000) (hn:n≤60) :
  Calls Tryz.prog 198 #[v, .int .i64 (n:Int)] w fun r w'=>∃ v',r=.returned v'∧ownB w' base v' (l++[UInt8.ofNat (2*n)])∧Below base w w':=by
 obtain⟨i0,hi,h0,f0,j0⟩:=info_parts Z1p
 replace hi:=hd_ hi
 have b0:(l++[UInt8.ofNat (2*n)]).length=l.length+1:=by simp
 have d0:Z0q (l++[UInt8.ofNat (2*n)])=Z0q l++[.int .u8 ((2*n:Nat):Int)]:=by
  rw [Z0t]
  unfold Z0q
  simp
  omega
 unfold ownB at h
 replace d0:=hd_ d0;replace b0:=hd_ b0;replace h:=hd_ h
 go_enter Tryz.func198,Tryz.ntmps198
 go_wp2
 go_loopw [0,5] (fun a u wr=>a=v∧u=.int .u64 ((n:Int)*2)∧wr=w) (fun _ _ _=>0)
 case atStart=>exact⟨rfl,rfl,rfl⟩
 case round=>
  obtain⟨rfl,rfl,rfl⟩:=hrel
  have k0:Hid ((n:Int)*2=((2*n:Nat):Int)):=hd_ (by omega)
  have hn2:¬ (n:Int)*2 > 127:=by omega
  have g0:=hi.out
  go_wp2_with (first
   | (at_builtin;refine wpList_append_own _ rfl _ _ 103 rfl base 5 i0 (.int .u8 0) 1 1 Tryz.underlying103 g0 h0 f0 j0 rfl (by decide) _ _ _ rfl (World.ownsRow.alloc h.out _) ⟨_,0,none⟩ 1 1 [.int .u8 ((n:Int)*2)] rfl rfl ?c1 ?c2 ?c3 ?c4 ?c5 ?_))
  case c2=>rfl
  case c3=>unfold maxLen;omega
  case c4=>omega
  case c5=>omega
  intro v7 w7 a0 e0 _
  rw [k0.out,← d0.out,← b0.out] at a0
  have c0:Below base wr w7:=((Below.refl base wr).alloc hb _).grown e0 (by simp;omega) (fun k hk=>(h.out.lt k hk).1)
  clear e0;replace a0:=hd_ a0;replace c0:=hd_ c0;go_wp2
  go_ret
  exact⟨v7,rfl,a0.out,c0.out⟩
theorem strV (s:ByteArray):Lib.strCells s=Z0q s.data.toList:=rfl
theorem Zaa (v:Value) (l:List UInt8) (base:Nat) (s:ByteArray) (w:World) (h:ownB w base v l) (hb:base≤w.heap.size) (hl:l.length≤90000) (hs:s.size≤60) :
  Calls Tryz.prog 220 #[v, .string s] w fun r w'=>∃ v',r=.returned v'∧ownB w' base v' (l++Zfg s)∧Below base w w':=by
 obtain⟨i0,hi,n0,m0,l0⟩:=info_parts Z1p
 replace hi:=hd_ hi
 have d0:l++Zfg s=(l++[UInt8.ofNat (2*s.size)])++s.data.toList:=by unfold Zfg;simp
 rw [d0]
 have b0:((l++[UInt8.ofNat (2*s.size)])++s.data.toList).length=(l++[UInt8.ofNat (2*s.size)]).length+s.size:=by rw [List.length_append,Z17]
 have f0:Z0q ((l++[UInt8.ofNat (2*s.size)])++s.data.toList)=Z0q (l++[UInt8.ofNat (2*s.size)])++Lib.strCells s:=by rw [Z0t,strV]
 have k0:(l++[UInt8.ofNat (2*s.size)]).length≤90001:=by simp;omega
 clear d0
 have hP:=nPut_any v l base s.size w h hb (by omega) hs
 generalize l++[UInt8.ofNat (2*s.size)]=l1 at f0 b0 k0 hP ⊢
 replace f0:=hd_ f0;replace b0:=hd_ b0;replace hP:=hd_ hP
 go_enter Tryz.func220,Tryz.ntmps220
 go_wp2_with fail
 refine hP.out.mono ?_
 rintro r w1 ⟨v1,rfl,c0,e0⟩
 have hsz:=e0.size
 have j0:=hi.out
 unfold ownB at c0
 replace c0:=hd_ c0;replace e0:=hd_ e0
 go_wp2_with (first
  | (at_builtin;refine Lib.wpList_append_own_string _ rfl _ _ 103 9 rfl base 5 i0 Tryz.underlying103 Tryz.underlying9 j0 n0 m0 l0 _ _ _ rfl c0.out s rfl ?d1 ?d2 ?d3 ?_))
 case d1=>unfold maxLen;omega
 case d2=>omega
 case d3=>omega
 intro v7 w7 a0 h0 _
 rw [← f0.out,← b0.out] at a0
 have g0:Below base w w7:=e0.out.grown h0 (by omega) (fun k hk=>(c0.out.lt k hk).1)
 clear h0;replace a0:=hd_ a0;replace g0:=hd_ g0;go_wp2
 go_ret
 exact⟨v7,rfl,a0.out,g0.out⟩
end
section
open Go.RowKit
def rdB (w:World) (v:Value) (l:List UInt8):Prop:=
 ∃ a cap,v=.slice a l.length cap∧l.length≤cap∧cap≤maxLen∧(0<l.length→∃ b off,a=some ⟨b,off,none⟩∧∀ j (h:j<l.length),w.cell? ⟨b,off+j,none⟩=some (.int .u8 l[j].toNat))
theorem ownB.rd {w:World} {base:Nat} {v:Value} {l:List UInt8} (h:ownB w base v l):rdB w v l:=by
 obtain⟨hl,⟨rfl,h0⟩ | ⟨g,b0,a0,rfl,hb,hg,hn,hc,hs,ht⟩⟩:=h
 ·exact⟨none,0,by rw [h0],by rw [h0];exact Nat.zero_le _,Nat.zero_le _,fun h=>by omega⟩
 ·refine⟨some ⟨g,0,none⟩,b0,rfl,hn,hc,fun _=>⟨g,0,rfl,fun j hj=>?_⟩⟩
  have h1:(a0.toList.take (l.length*1))[j]?=some (.int .u8 l[j].toNat):=by
   rw [ht];unfold Z0q
   rw [List.getElem?_map,List.getElem?_eq_getElem hj];rfl
  rw [List.getElem?_take] at h1
  split at h1
  ·simp [World.cell?,hg] at h1 ⊢
   simpa using h1
  ·cases h1
theorem Z8e (l:List UInt8) (x:Nat) (k:Nat) (h:k<l.length):(l.take (k+1)).foldl Z4k x=Z4k ((l.take k).foldl Z4k x) l[k]:=by
 rw [List.take_succ_eq_append_getElem h,List.foldl_append];rfl
theorem exprC (z:Nat) (hz:z<4294967296):bits .xor .u32 ((z:Int) / 2) (bits .and .u32 3988292384 (-bits .and .u32 (z:Int) 1 % 4294967296))=((Za8 z:Nat):Int):=by
 have h1:bits .and .u32 (z:Int) 1=((z % 2:Nat):Int):=by rw [show (1:Int)=((1:Nat):Int) from rfl,u32_and_nat z 1 hz (by omega),Nat.and_one_is_mod]
 have h2:(z:Int) / 2=((z / 2:Nat):Int):=by omega
 rw [h1,h2]
 unfold Za8
 by_cases h:z % 2=1
 ·rw [if_pos h,h,show (-((1:Nat):Int)) % 4294967296=((4294967295:Nat):Int) by decide,show (3988292384:Int)=((3988292384:Nat):Int) from rfl,u32_and_nat _ _ (by omega) (by omega),
   show (3988292384 &&& 4294967295:Nat)=3988292384 by decide,u32_xor_nat _ _ (by omega) (by omega)]
 ·have h0:z % 2=0:=by omega
  rw [if_neg h,h0,show (-((0:Nat):Int)) % 4294967296=((0:Nat):Int) by decide,show (3988292384:Int)=((3988292384:Nat):Int) from rfl,u32_and_nat _ _ (by omega) (by omega),
   show (3988292384 &&& 0:Nat)=0 by decide,u32_xor_nat _ _ (by omega) (by omega),Nat.xor_zero]
theorem Ze1 (v:Value) (l:List UInt8) (w:World) (h:rdB w v l) :
  Calls Tryz.prog 193 #[v] w fun r w'=>r=.returned (.int .u32 (Ze0 l:Nat))∧w=w':=by
 obtain⟨a,cap,rfl,hm,hM,ha⟩:=h
 unfold maxLen at hM
 replace ha:=hd_ ha
 go_enter Tryz.func193,Tryz.ntmps193
 go_wp2
 go_loop [3,8] (fun s i=>∃ k:Nat,k≤l.length∧i=.int .i64 k∧s=.int .u32 (((l.take k).foldl Z4k 4294967295:Nat):Int)) (fun _ i=>l.length-(intOf i).toNat)
 case atStart=>exact⟨0,Nat.zero_le _,rfl,rfl⟩
 case round=>
  obtain⟨k,hk,rfl,rfl⟩:=hrel
  by_cases hlt:k<l.length
  ·obtain⟨g,off,rfl,hc⟩:=ha.out (by omega)
   have i0:=hc k hlt
   have a0:=Z8e l 4294967295 k hlt
   have d0:=Z32 (l.take k) (x:=4294967295) (by omega)
   clear hc
   generalize l[k]=b at i0 a0
   generalize (l.take k).foldl Z4k 4294967295=x at a0 d0 ⊢
   replace a0:=hd_ a0
   have hbl:=b.toNat_lt
   go_upto_region 6 with (fail)
   rw [u32_xor_nat x b.toNat d0 (by omega)]
   have e0:=Z74 d0 (show b.toNat<4294967296 by omega)
   have b0:Hid ((l.take (k+1)).foldl Z4k 4294967295=Z2q 8 (x ^^^ b.toNat)):=a0
   clear a0
   generalize x ^^^ b.toNat=y at b0 e0 ⊢
   go_wp2
   go_loop [3,16] (fun s i=>∃ j:Nat,j≤8∧i=.int .i64 j∧s=.int .u32 ((Z2q j y:Nat):Int)) (fun _ i=>8-(intOf i).toNat)
   case atStart=>exact⟨0,Nat.zero_le _,rfl,rfl⟩
   case round=>
    obtain⟨j,hj,rfl,rfl⟩:=hrel
    by_cases hlt8:j<8
    ·have g0:=Z55 e0 j
     have c0:Z2q (j+1) y=Za8 (Z2q j y):=rfl
     generalize Z2q j y=z at g0 c0 ⊢
     replace c0:=hd_ c0;go_upto_region 9 with (fail)
     rw [exprC z g0,← c0.out]
     go_wp2
     go_round
     case rel=>exact⟨j+1,by omega,by go_num,rfl⟩
     case measure=>simp [intOf];omega
    ·obtain rfl:j=8:=by omega
     rw [← b0.out]
     go_wp2
     go_round
     case rel=>exact⟨k+1,by omega,by go_num,rfl⟩
     case measure=>simp [intOf];omega
  ·obtain rfl:k=l.length:=by omega
   rw [List.take_length]
   have h0:=Z32 l (x:=4294967295) (by omega)
   have f0:Hid (Ze0 l=4294967295 ^^^ l.foldl Z4k 4294967295):=hd_ rfl
   generalize l.foldl Z4k 4294967295=x at h0 f0 ⊢
   have hsg:IntKind.u32.signed=false:=rfl
   have j0:Hid (bits .xor .u32 IntKind.u32.max (x:Int)=((Ze0 l:Nat):Int)):=hd_ (by
    rw [show IntKind.u32.max=((4294967295:Nat):Int) by decide,u32_xor_nat _ _ (by omega) h0,f0.out])
   go_wp2
   all_goals first | (exfalso;simp_all;done) | skip
   all_goals
    rw [j0.out]
    go_ret
    exact⟨rfl,rfl⟩
end
end Go.Proofs.YtbonjbokofkafaaGreat
