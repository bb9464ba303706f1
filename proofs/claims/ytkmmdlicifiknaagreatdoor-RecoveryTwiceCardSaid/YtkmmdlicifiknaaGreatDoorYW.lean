/- maps.Keys of a device's map, over any heap. Joined texts, each with what its own name promises; no condition beyond those stated. -/
import Derived.Test.YtkmmdlicifiknaaGreatDoorYO
import Derived.Test.YtkmmdlicifiknaaGreatDoorYC
import Derived.Shelf.SlIterI.Nil
import Derived.Shelf.SortM.Plain
import Derived.Shelf.SortM.SortNone
import Derived.Test.YtkmmdlicifiknaaGreatDoorProg
import Derived.KernelRfl
import Derived.Test.YtkmmdlicifiknaaGreatDoorYU
import Derived.Test.YtkmmdlicifiknaaGreatDoorYE
set_option maxHeartbeats 0
set_option maxRecDepth 100000
set_option linter.all false
namespace Go.Abs
theorem d1V(es:List (AV × AV))(h1:a0e 0 (es.map (·.1)))(h2:a0e 0 (es.map (·.2))):HOk 1 [some (.map es)]:=fun j o ho=>by
 match j,ho with
 | 0,ho=>cases ho;exact ⟨a0x (Nat.zero_le _) h1,a0x (Nat.zero_le _) h2⟩
theorem d1e(l:List (Int × List UInt8)):a0e 0 ((l.map c0P).map (·.1)) /\ a0e 0 ((l.map c0P).map (·.2)):=by
 rw [List.map_map,List.map_map]
 exact ⟨a0h fun _=>trivial,a0h fun p=>(a0h (f:=u8A) fun _=>a0n:a0e 0 (p.2.map u8A))⟩
attribute [local irreducible] a0B a1G AWp Nx awM
theorem d2d(X:Nat->Prop)(l:List (Int × List UInt8)):a0b (E0 X) 79 [.mp 0] [some (.map (l.map c0P))]
  (fun r H'=>r=.clo (.func 133) [] [.ptr 1 0] /\ H'=[some (.map (l.map c0P)),some (.cells [.mp 0] 110)]):=by
 refine Z0 Proofs.Tryz.func79 rfl Proofs.Tryz.ntmps79 (by kernel_rfl) rfl ?_
 repeat' (first|refine Zs rfl ?_|refine Zc rfl ?_|refine Zh ?_|refine Qs ?_)
 refine a0c ⟨_,rfl,?_,?_⟩
 ·rfl
 ·rfl
theorem d1X(X:Nat->Prop)(H:Hp)(id:Nat)(l:List (Int × List UInt8))(ho:H[id]?=some (some (.map (l.map c0P)))):a0b (E0 X) 79 [.mp id] H
  (fun r H'=>r=.clo (.func 133) [] [.ptr H.length 0] /\ H'=H++[some (.cells [.mp id] 110)]):=by
 have e:rnO (reN [id] H.length) (.map (l.map c0P))=.map (l.map c0P):=by simp only [rnO];rw [b8j]
 have h:=a0b.frame (E:=E0 X) (fun X=>d2d X l) [id] H (by simp) rfl (fun j=>by
  match j with
  | 0=>simp
  | j+1=>simp) (fun j i o hj hh=>by
  match j,hj,hh with
  | 0,hj,hh =>
   simp at hj hh
   subst hj hh
   rw [e];exact ho) (by simp [a0e,a0g]) (d1V _ (d1e l).1 (d1e l).2)
 refine a0b.mono h ?_
 rintro r H' ⟨r0,h',⟨rfl,rfl⟩,_,rfl,rfl⟩
 refine ⟨?_,?_⟩
 ·simp [rnA,rnL,reN]
 simp only [mrg,List.map_cons,List.map_nil,Option.map_some,e,a1F,List.length_cons,List.length_nil,Nat.zero_add,List.drop_succ_cons,List.drop_zero]
 rw [a7G ho]
 simp [rnO,rnL,rnA,reN]
end Go.Abs
namespace Go.Proofs
def Tryz.keysL_ren:Go.Shelf.Ren:=⟨fun|10=>133|n=>n,fun|33=>216|23=>110|0=>0|4=>4|26=>3|3=>161|n=>n,fun|n=>n⟩
theorem Tryz.keysL:Go.Proofs.SlLaysZI.n10 Tryz.prog Tryz.keysL_ren where
 mixed:=by kernel_rfl
 f10:=⟨Tryz.f133.name,by kernel_rfl,Tryz.func133.trans (congrArg some (by kernel_rfl))⟩
 t0:=Tryz.underlying0
 a0:=Tryz.isAgg0
 z0:=Tryz.sizeOf0
 v0:=Tryz.zeroValue0
 t4:=Tryz.underlying4
 a4:=Tryz.isAgg4
 z4:=Tryz.sizeOf4
 v4:=Tryz.zeroValue4
 t23:=Tryz.underlying110
 a23:=Tryz.isAgg110
 z23:=Tryz.sizeOf110
 v23:=Tryz.zeroValue110
 t26:=Tryz.underlying3
 a26:=Tryz.isAgg3
 z26:=Tryz.sizeOf3
 v26:=Tryz.zeroValue3
 t33:=Tryz.underlying216
 a33:=Tryz.isAgg216
 z33:=Tryz.sizeOf216
 v33:=Tryz.zeroValue216
def Tryz.sortedL_ren:Go.Shelf.Ren:=⟨fun|6=>78|8=>131|9=>132|11=>176|13=>178|12=>177|23=>212|24=>213|14=>203|15=>204|16=>205|17=>206|18=>207|19=>208|20=>209|21=>210|22=>211|25=>232|26=>233|27=>234|28=>235|29=>236|30=>193|31=>248|n=>n,fun|26=>3|28=>158|24=>146|0=>0|3=>3|37=>177|48=>213|50=>150|4=>4|40=>281|39=>280|45=>245|5=>5|9=>9|51=>298|55=>302|57=>312|58=>313|33=>216|n=>n,fun|n=>n⟩
theorem Tryz.sortedL:Go.Proofs.SlLaysZI.n6 Tryz.prog Tryz.sortedL_ren where
 mixed:=by kernel_rfl
 f6:=⟨Tryz.f78.name,by kernel_rfl,Tryz.func78.trans (congrArg some (by kernel_rfl))⟩
 f8:=⟨Tryz.f131.name,by kernel_rfl,Tryz.func131.trans (congrArg some (by kernel_rfl))⟩
 f11:=⟨Tryz.f176.name,by kernel_rfl,Tryz.func176.trans (congrArg some (by kernel_rfl))⟩
 t0:=Tryz.underlying0
 a0:=Tryz.isAgg0
 z0:=Tryz.sizeOf0
 v0:=Tryz.zeroValue0
 t24:=Tryz.underlying146
 a24:=Tryz.isAgg146
 z24:=Tryz.sizeOf146
 v24:=Tryz.zeroValue146
 t26:=Tryz.underlying3
 a26:=Tryz.isAgg3
 z26:=Tryz.sizeOf3
 v26:=Tryz.zeroValue3
 t28:=Tryz.underlying158
 a28:=Tryz.isAgg158
 z28:=Tryz.sizeOf158
 v28:=Tryz.zeroValue158
 i26:=by kernel_rfl
def Tryz.sortL_ren:Go.Shelf.Ren:=⟨fun|5=>132|8=>178|7=>177|19=>212|20=>213|10=>203|11=>204|12=>205|13=>206|14=>207|15=>208|16=>209|17=>210|18=>211|30=>232|31=>233|32=>234|33=>235|34=>236|35=>193|40=>248|n=>n,fun|23=>146|25=>3|3=>3|32=>177|22=>146|0=>0|44=>213|46=>150|4=>4|36=>281|35=>280|41=>245|5=>5|9=>9|53=>298|57=>302|63=>312|64=>313|n=>n,fun|n=>n⟩
theorem Tryz.sortL:Go.Proofs.SlLaysM.n5 Tryz.prog Tryz.sortL_ren where
 mixed:=by kernel_rfl
 f5:=⟨Tryz.f132.name,by kernel_rfl,Tryz.func132.trans (congrArg some (by kernel_rfl))⟩
 f7:=⟨Tryz.f177.name,by kernel_rfl,Tryz.func177.trans (congrArg some (by kernel_rfl))⟩
 f8:=Tryz.func178.trans (congrArg some (by kernel_rfl))
 f10:=⟨Tryz.f203.name,by kernel_rfl,Tryz.func203.trans (congrArg some (by kernel_rfl))⟩
 f11:=⟨Tryz.f204.name,by kernel_rfl,Tryz.func204.trans (congrArg some (by kernel_rfl))⟩
 f12:=⟨Tryz.f205.name,by kernel_rfl,Tryz.func205.trans (congrArg some (by kernel_rfl))⟩
 f13:=⟨Tryz.f206.name,by kernel_rfl,Tryz.func206.trans (congrArg some (by kernel_rfl))⟩
 f14:=⟨Tryz.f207.name,by kernel_rfl,Tryz.func207.trans (congrArg some (by kernel_rfl))⟩
 f15:=⟨Tryz.f208.name,by kernel_rfl,Tryz.func208.trans (congrArg some (by kernel_rfl))⟩
 f16:=⟨Tryz.f209.name,by kernel_rfl,Tryz.func209.trans (congrArg some (by kernel_rfl))⟩
 f17:=⟨Tryz.f210.name,by kernel_rfl,Tryz.func210.trans (congrArg some (by kernel_rfl))⟩
 f18:=⟨Tryz.f211.name,by kernel_rfl,Tryz.func211.trans (congrArg some (by kernel_rfl))⟩
 f19:=Tryz.func212.trans (congrArg some (by kernel_rfl))
 f20:=Tryz.func213.trans (congrArg some (by kernel_rfl))
 f30:=⟨Tryz.f232.name,by kernel_rfl,Tryz.func232.trans (congrArg some (by kernel_rfl))⟩
 f31:=Tryz.func233.trans (congrArg some (by kernel_rfl))
 f32:=Tryz.func234.trans (congrArg some (by kernel_rfl))
 f33:=⟨Tryz.f235.name,by kernel_rfl,Tryz.func235.trans (congrArg some (by kernel_rfl))⟩
 f34:=⟨Tryz.f236.name,by kernel_rfl,Tryz.func236.trans (congrArg some (by kernel_rfl))⟩
 f35:=⟨Tryz.f193.name,by kernel_rfl,Tryz.func193.trans (congrArg some (by kernel_rfl))⟩
 f40:=⟨Tryz.f248.name,by kernel_rfl,Tryz.func248.trans (congrArg some (by kernel_rfl))⟩
 t0:=Tryz.underlying0
 a0:=Tryz.isAgg0
 z0:=Tryz.sizeOf0
 v0:=Tryz.zeroValue0
 t3:=Tryz.underlying3
 a3:=Tryz.isAgg3
 z3:=Tryz.sizeOf3
 v3:=Tryz.zeroValue3
 t4:=Tryz.underlying4
 a4:=Tryz.isAgg4
 z4:=Tryz.sizeOf4
 v4:=Tryz.zeroValue4
 t5:=Tryz.underlying5
 a5:=Tryz.isAgg5
 z5:=Tryz.sizeOf5
 v5:=Tryz.zeroValue5
 t9:=Tryz.underlying9
 a9:=Tryz.isAgg9
 z9:=Tryz.sizeOf9
 v9:=Tryz.zeroValue9
 t22:=Tryz.underlying146
 a22:=Tryz.isAgg146
 z22:=Tryz.sizeOf146
 v22:=Tryz.zeroValue146
 t23:=Tryz.underlying146
 a23:=Tryz.isAgg146
 z23:=Tryz.sizeOf146
 v23:=Tryz.zeroValue146
 t25:=Tryz.underlying3
 a25:=Tryz.isAgg3
 z25:=Tryz.sizeOf3
 v25:=Tryz.zeroValue3
 t32:=Tryz.underlying177
 a32:=Tryz.isAgg177
 z32:=Tryz.sizeOf177
 v32:=Tryz.zeroValue177
 t35:=Tryz.underlying280
 a35:=Tryz.isAgg280
 z35:=Tryz.sizeOf280
 v35:=Tryz.zeroValue280
 t36:=Tryz.underlying281
 a36:=Tryz.isAgg281
 z36:=Tryz.sizeOf281
 v36:=Tryz.zeroValue281
 t41:=Tryz.underlying245
 a41:=Tryz.isAgg245
 z41:=Tryz.sizeOf245
 v41:=Tryz.zeroValue245
 t44:=Tryz.underlying213
 a44:=Tryz.isAgg213
 z44:=Tryz.sizeOf213
 v44:=Tryz.zeroValue213
 t46:=Tryz.underlying150
 a46:=Tryz.isAgg150
 z46:=Tryz.sizeOf150
 v46:=Tryz.zeroValue150
 t53:=Tryz.underlying298
 a53:=Tryz.isAgg298
 z53:=Tryz.sizeOf298
 v53:=Tryz.zeroValue298
 t57:=Tryz.underlying302
 a57:=Tryz.isAgg302
 z57:=Tryz.sizeOf302
 v57:=Tryz.zeroValue302
 t63:=Tryz.underlying312
 a63:=Tryz.isAgg312
 z63:=Tryz.sizeOf312
 v63:=Tryz.zeroValue312
 t64:=Tryz.underlying313
 a64:=Tryz.isAgg313
 z64:=Tryz.sizeOf313
 v64:=Tryz.zeroValue313
end Go.Proofs
namespace Go.Abs
open Go.Proofs Go.Maps Go.Sort Go.Shelf Go.RowKit
def d1j(l:List (Int × List UInt8)):List Int:=(l.map (·.1)).mergeSort (fun x y=>decide (x<=y))
theorem d2f(m:Nat):AnyZI.SortsIn Proofs.Tryz.prog Proofs.Tryz.sortedL_ren Fence.wide m :=
 ⟨fun blk off cap ss W hH hblk hsz=>callsIn_wide.2 (AnyM.slices_Sort_int Proofs.Tryz.sortL blk off cap ss W hH hblk hsz),
  fun p cap W=>callsIn_wide.2 (AnyM.slices_Sort_int_none Proofs.Tryz.sortL p cap W)⟩
def d1C(_:Value):Option (DataW Unit × List MemPlace):=some (.nil,[])
theorem keys_perm{P:Program}{k:TypeId}(hk:P.underlying k=some (.int .i64)){es:List MapEntry}{ns:List Int}(h:es.map (·.key)=ns.map (Value.int .i64))(hr:∀ n ∈ ns,(Lit.int .i64 n).wf=true) :
  (∀ x ∈ es,∃ y,Go.WideElems.rd P k d1C x=some y) /\ (intKeys (.map ((es.map (Go.WideElems.rg P k d1C)).foldr DataW.insert []))).Perm ns:=by
 have hrd:∀ x ∈ es,∀ n:Int,x.key=.int .i64 n->(Lit.int .i64 n).wf=true->Go.WideElems.rd P k d1C x=some (.int .i64 n,.nil):=fun x _ n hx hw=>by
  have h1:=keyOf_int_mk hk hw
  simp only [Go.WideElems.rd,hx,h1,d1C,Option.bind_some,Option.map_some]
 have hall:∀ (es:List MapEntry) (ns:List Int),es.map (·.key)=ns.map (Value.int .i64)->(∀ n ∈ ns,(Lit.int .i64 n).wf=true) ->
   (∀ x ∈ es,∃ y,Go.WideElems.rd P k d1C x=some y) /\ (es.map (Go.WideElems.rg P k d1C)).map (fun p=>Go.intOf p.1)=ns:=by
  intro es
  induction es with
  | nil=>intro ns h _;cases ns with
   | nil=>exact ⟨by simp,rfl⟩
   | cons n ns=>simp at h
  | cons x es ih=>intro ns h hr;cases ns with
   | nil=>simp at h
   | cons n ns =>
    simp only [List.map_cons,List.cons.injEq] at h
    obtain ⟨h1,h2⟩:=ih ns h.2 (fun q hq=>hr q (List.mem_cons_of_mem _ hq))
    have h3:Go.WideElems.rd P k d1C x=some (.int .i64 n,.nil):=by
     have h4:=keyOf_int_mk hk (hr n (by simp))
     simp only [Go.WideElems.rd,h.1,h4,d1C,Option.bind_some,Option.map_some]
    refine ⟨fun y hy=>?_,?_⟩
    ·rcases List.mem_cons.1 hy with rfl|hy
     ·exact ⟨_,h3⟩
     ·exact h1 y hy
    ·simp only [List.map_cons]
     rw [h2,Go.WideElems.rg_of h3];rfl
 obtain ⟨h1,h2⟩:=hall es ns h hr
 refine ⟨h1,?_⟩
 have h3:=(Go.WideShapes.sorted_perm (es.map (Go.WideElems.rg P k d1C))).map (fun p=>Go.intOf p.1)
 rw [h2] at h3
 exact h3
theorem d1H(X:Nat->Prop)(H:Hp)(j id:Nat)(l:List (Int × List UInt8))(ho:H[id]?=some (some (.map (l.map c0P))))(hb:H[j]?=some (some (.cells [.mp id] 110)))
  (hnd:(l.map (·.1)).Nodup) (hr:∀ p ∈ l,0<=p.1 /\ p.1<=1073741824) (hlen:l.length<=1073741824) :
  a0b (E0 X) 78 [.clo (.func 133) [] [.ptr j 0]] H (fun r H'=>r=.own H.length 0 l.length /\ H'=H++[some (.arr ((d1j l).map (.int .i64)) 3)]):=by
 refine ⟨⟨Proofs.Tryz.f78,Proofs.Tryz.func78,rfl,by kernel_rfl⟩,fun m w vs hok hglob hargs hsim=>?_⟩
 obtain ⟨v,r,rfl,h1,h2⟩:=a0l.1 hargs
 rw [a0W] at h2;subst h2
 simp only [Abs.Rel] at h1
 obtain ⟨us,ws,rfl,h3,h4⟩:=h1
 rw [a0W] at h3;subst h3
 obtain ⟨u,q,rfl,h5,h6⟩:=a0l.1 h4
 rw [a0W] at h6;subst h6
 simp only [Abs.Rel] at h5
 obtain ⟨a,rfl,h7,h8⟩:=h5
 obtain ⟨x,hx,hob⟩:=hsim.live j _ hb
 cases x with
 | dead=>exact hob.elim
 | nil=>exact hob.elim
 | blk bj =>
  obtain ⟨us,hbl,hus⟩:=hob
  obtain ⟨u,q,hu1,hu2,hu3⟩:=a0l.1 hus
  rw [a0W] at hu3;subst hu3
  simp only [Abs.Rel] at hu2
  obtain ⟨rr,rfl,hm1,hm2⟩:=hu2
  have ha:a=⟨bj,0,none⟩:=h8 bj hx
  subst ha
  obtain ⟨y,hy,hob2⟩:=hsim.live id _ ho
  cases y with
  | dead=>exact hob2.elim
  | nil=>exact hob2.elim
  | blk bm =>
   have hrr:rr=bm:=hm2 bm hy
   subst hrr
   obtain ⟨es,clock,hmap,hborn,hbnd,hk,hv⟩:=hob2
   have hk1:es.toList.map (·.key)=(l.map (·.1)).map (Value.int .i64):=by
    have h9:(l.map c0P).map (·.1)=(l.map (·.1)).map (AV.int .i64):=by simp [c0P]
    rw [h9] at hk
    exact d1l hk
   have hu3:Proofs.Tryz.prog.underlying 3=some (.int .i64):=Proofs.Tryz.underlying3
   have hwf:∀ n ∈ l.map (·.1),(Lit.int .i64 n).wf=true:=fun n hn=>by
    obtain ⟨p,hp,rfl⟩:=List.mem_map.1 hn
    have:=hr p hp
    simp [Lit.wf,IntKind.min,IntKind.max,IntKind.bits,IntKind.signed]
    omega
   obtain ⟨hrd,hperm⟩:=keys_perm hu3 hk1 hwf
   have hsz:es.size=l.length:=by
    have:=congrArg List.length hk1
    simpa using this
   have hinj:∀ a b:Int,Value.int .i64 a=.int .i64 b->a=b:=fun a b h=>by simpa using h
   have hfit:Go.WideElems.Fit Proofs.Tryz.prog 3 d1C es clock:=⟨by rw [hsz];show _<=9223372036854775807;omega,⟨fun x hx=>hborn x (by simpa using hx),hbnd,by
    rw [hk1]
    exact List.pairwise_map.2 (hnd.imp fun h e=>h (hinj _ _ e))⟩,hrd⟩
   let D0:DataW Unit:=.map ((es.toList.map (Go.WideElems.rg Proofs.Tryz.prog 3 d1C)).foldr DataW.insert [])
   have hown:w.ownsMap Proofs.Tryz.prog 3 d1C rr es.size D0:=⟨es,clock,hmap,hfit,Nat.le_refl _,rfl⟩
   have hDs:Maps.size D0=l.length:=by
    show (List.foldr DataW.insert [] _).length=_
    rw [Go.length_sorted];simp [hsz]
   have hus':us=#[.map (some rr)]:=by
    apply Array.ext'
    simpa using hu1
   subst hus'
   have hseq:SeqGives Fence.wide 2 Proofs.Tryz.prog 133 #[.pointer (some ⟨bj,0,none⟩)] encZ (fun ss=>ss.Perm (intKeys D0)) (Maps.size D0) w :=
    AnyZI.keys_gives (ρ:=Proofs.Tryz.keysL_ren) { Proofs.Tryz.keysL with } Fence.wide _ trivial rfl (by omega) bj rr es.size D0 w (hsim.lt (List.mem_of_getElem? hx)) (by simp [World.cell?,hbl]) hown
   have cS:=AnyZI.sorted_in Proofs.Tryz.sortedL Fence.wide 5 trivial trivial trivial trivial rfl (by omega) (d2f _) (enters_of Proofs.Tryz.func132 (by kernel_rfl) rfl) 133 #[.pointer (some ⟨bj,0,none⟩)] trivial
    (enters_of Proofs.Tryz.func133 (by kernel_rfl) rfl) _ _ (by rw [hDs];show _<=9223372036854775807;omega) (by rw [hDs];omega) _ hseq
   change CallsIn _ _ Proofs.Tryz.prog 78 _ _ _ at cS
   refine ((callsIn_wide (n:=5)).1 cS).mono ?_
   rintro e w' ⟨v,ss,rfl,hS,hrow,hnil,hbelow⟩
   have hss:ss.Perm (l.map (·.1)):=hS.trans hperm
   have hms:ss.mergeSort (fun x y=>decide (x<=y))=d1j l:=mergeSort_of_perm_i hss
   have hsl:ss.length=l.length:=by have:=hss.length_eq;simpa using this
   rw [hms,hsl] at hrow
   obtain ⟨m',h10,h11,h12⟩:=c4p (E:=E0 X) (es:=(d1j l).map (.int .i64)) hsim hbelow hrow (by rfl) (fun u hu=>by
    obtain ⟨n,_,rfl⟩:=List.mem_map.1 hu;rfl) (fun cx m=>by
     have:∀ ns:List Int,Abs.RelL cx m w' (ns.map (.int .i64)) (ns.map encZ):=fun ns=>by
      induction ns with
      | nil=>simp [Abs.RelL]
      | cons n ns ih=>exact RelL.cons (by simp [Abs.Rel,encZ]) ih
     exact this _) (a2h (fun _=>rfl) _)
   exact ⟨v,m',_,_,rfl,h10,h11,h12,rfl,rfl⟩
theorem d1q:∀ (n:Nat) (l:List Nat),l.Nodup->(∀ x ∈ l,x < n)->l.length<=n
 | 0,l,_,h=>by
  cases l with
  | nil=>exact Nat.le_refl _
  | cons x l=>exact absurd (h x (by simp)) (Nat.not_lt_zero _)
 | n+1,l,hn,h=>by
  by_cases hm:n ∈ l
  ·have h1:=d1q n (l.erase n) (hn.erase n) (fun x hx=>by
    have h2:=(hn.mem_erase_iff).1 hx
    have:=h x h2.2
    have:=h2.1
    omega)
   rw [List.length_erase_of_mem hm] at h1
   omega
  have:=d1q n l hn (fun x hx=>by
   have:=h x hx
   have:x ≠ n:=fun e=>hm (e ▸ hx)
   omega)
  omega
theorem Dv.Inv.len{v:Dv}(h:v.Inv):v.old.length<=1048576:=by
 have h1:=d1q 1048576 (v.old.map fun p=>p.1.toNat) (List.pairwise_map.2 ((List.pairwise_map.1 h.nd).imp_of_mem fun {a b} ha hb hne e=>hne (by
  have:=h.keys a ha;have:=h.keys b hb;omega))) (fun x hx=>by
  obtain ⟨p,hp,rfl⟩:=List.mem_map.1 hx
  have:=h.keys p hp
  have:=h.load.2.2
  omega)
 simpa using h1
def d1k(l:List (Int × List UInt8))(i:Int):List UInt8:=((l.find? fun p=>p.1 == i).map (·.2)).getD []
theorem d1y:∀ {l:List (Int × List UInt8)} {i:Int},i ∈ l.map (·.1)->(l.map (·.1)).Nodup->∃ j:Nat,(l.map (·.1))[j]?=some i /\ l[j]?=some (i,d1k l i)
 | [],_,h,_=>by simp at h
 | p :: l,i,h,hn=>by
  simp only [List.map_cons,List.nodup_cons] at hn
  by_cases hp:p.1=i
  ·refine ⟨0,by simp [hp],?_⟩
   have e:d1k (p :: l) i=p.2:=by
    have hb:(p.1 == i)=true:=by simpa using hp
    simp only [d1k,List.find?_cons,hb,Option.map_some,Option.getD_some]
   rw [e,<- hp];rfl
  simp only [List.map_cons,List.mem_cons] at h
  obtain ⟨j,h1,h2⟩:=d1y (h.resolve_left fun e=>hp e.symm) hn.2
  refine ⟨j+1,by simpa using h1,?_⟩
  have e:d1k (p :: l) i=d1k l i:=by
   have hb:(p.1 == i)=false:=by simpa using hp
   simp only [d1k,List.find?_cons,hb]
  rw [e];simpa using h2
def bkN(img old:List UInt8)(i n:Nat):List UInt8:=img.take (i * 64+n)++old.drop n++img.drop (i * 64+64)
theorem d1E{img old:List UInt8}{i n:Nat}(h:i * 64+64<=img.length)(ho:old.length=64)(hn:n<=64):(bkN img old i n).length=img.length:=by
 simp [bkN];omega
def d1A(old:List (Int × List UInt8))(keep:List Bool)(ts:List Tr)(img:List UInt8)(k:Nat):List UInt8 :=
 match (d1j old)[k]? with
 | some i=>bkN img (d1k old i) i.toNat (d1p k keep ts).toNat
 | none=>img
def d1t(img:List UInt8)(old:List (Int × List UInt8))(keep:List Bool)(ts:List Tr)(j:Nat):List UInt8:=(List.range j).foldl (d1A old keep ts) img
theorem d1o{img:List UInt8}{old:List (Int × List UInt8)}{keep:List Bool}{ts:List Tr}{j:Nat}:d1t img old keep ts (j+1)=d1A old keep ts (d1t img old keep ts j) j:=by
 simp [d1t,List.range_succ]
theorem d1n(l:List (Int × List UInt8)):(d1j l).Perm (l.map (·.1)):=List.mergeSort_perm _ _
theorem d1G(l:List (Int × List UInt8)):(d1j l).length=l.length:=by have:=(d1n l).length_eq;simpa using this
theorem d1x{v:Dv}(hv:v.Inv){k:Nat}{i:Int}(h:(d1j v.old)[k]?=some i):∃ q:Nat,i=q /\ q * 64+64<=v.image.length /\ (d1k v.old i).length=64 /\ ∃ j:Nat,(v.old.map (·.1))[j]?=some i /\ v.old[j]?=some (i,d1k v.old i):=by
 have hm:i ∈ v.old.map (·.1):=(d1n v.old).mem_iff.1 (List.mem_of_getElem? h)
 obtain ⟨j,h1,h2⟩:=d1y hm hv.nd
 have h3:=hv.keys _ (List.mem_of_getElem? h2)
 have h4:=hv.sz _ (List.mem_of_getElem? h2)
 simp only at h3 h4
 exact ⟨i.toNat,by omega,by omega,h4,j,h1,h2⟩
theorem d1u{v:Dv}(hv:v.Inv){keep:List Bool}{ts:List Tr}:∀ j,(d1t v.image v.old keep ts j).length=v.image.length
 | 0=>rfl
 | j+1=>by
  have h:=d1u hv (keep:=keep) (ts:=ts) j
  rw [d1o]
  unfold d1A
  split
  ·rename_i i hi
   obtain ⟨q,rfl,hq,hl,_⟩:=d1x hv hi
   have:=d1m j keep ts
   rw [d1E (by simpa [h] using hq) hl (by omega),h]
  ·exact h
def Dv.crash(v:Dv)(keep:List Bool)(ts:List Tr):Dv:=Dv.fresh (d1t v.image v.old keep ts v.old.length)
theorem d2i{X:Nat->Prop}(v:Dv)(i:Nat)(hl:v.image.length<=1073741824)(hi:i * 64+64<=v.image.length)(L R:Hp)(s:Nat)(hs:L.length=s) :
  a0b (E0 X) 81 [.ptr s 0,.int .i64 (i:Int)] (L++b5E s v++R) (fun r H'=>r=.own (1+s) (i * 64) 64 /\ H'=L++b5E s v++R):=by
 refine (c3w (fun X=>c9l X v i hl hi) ⟨trivial,trivial⟩ L R s hs).mono ?_
 rintro r H' ⟨r1,h',⟨rfl,rfl⟩,rfl,rfl⟩
 refine ⟨by simp [rnA,sh],?_⟩
 show L++a1U (sh s R.length 3) (a1c v)++R++[]=_
 rw [a3j,List.append_nil]
theorem d2g{img o:List UInt8}{i n:Nat}(h:i * 64+64<=img.length)(ho:o.length=64)(hn:n<=64) :
  spl (img.map u8A) (i * 64+n) (((o.drop n).map u8A).take (min (64 - n) ((o.drop n).map u8A).length))=(bkN img o i n).map u8A:=by
 have h1:((o.drop n).map u8A).length=64 - n:=by simp;omega
 rw [h1,Nat.min_self,List.take_of_length_le (by omega)]
 unfold spl bkN
 rw [h1]
 have h2:i * 64+n+(64 - n)=i * 64+64:=by omega
 rw [h2]
 simp only [List.map_append,List.map_take,List.map_drop]
def crH(v:Dv)(img:List UInt8):Hp:=a1c v++b5E 3 (Dv.fresh img)++[some (.cells [.mp 2] 110),some (.arr ((d1j v.old).map (.int .i64)) 3)]
theorem d1s(v:Dv)(img:List UInt8):crH v img=a1c v++[some (.cells [.own 4 0 img.length,.mp 5,.int .i64 0,.int .i64 (-1),.bool false] 112),some (.arr (img.map u8A) 5),some (.map []),
  some (.cells [.mp 2] 110),some (.arr ((d1j v.old).map (.int .i64)) 3)]:=by
 simp [crH,b5E,Dv.fresh]
theorem d1F(v:Dv)(img:List UInt8):HOk 8 (crH v img):=by
 rw [d1s]
 intro j o ho
 match j,ho with
 | 0,ho=>cases ho;exact ⟨by simp [a0g],by simp [a0g],trivial,trivial,trivial,trivial⟩
 | 1,ho=>cases ho;exact a0h fun _=>a0n
 | 2,ho=>cases ho;exact ⟨a0x (Nat.zero_le _) (d1e _).1,a0x (Nat.zero_le _) (d1e _).2⟩
 | 3,ho=>cases ho;exact ⟨by simp [a0g],by simp [a0g],trivial,trivial,trivial,trivial⟩
 | 4,ho=>cases ho;exact a0h fun _=>a0n
 | 5,ho=>cases ho;exact ⟨trivial,trivial⟩
 | 6,ho=>cases ho;exact ⟨by simp [a0g],trivial⟩
 | 7,ho=>cases ho;exact a0h fun _=>trivial
attribute [local irreducible] a0B a1G AWp Nx awM
theorem d1T(X:Nat->Prop)(v:Dv)(hv:v.Inv)(keep:List Bool)(ts:List Tr)(hts:ts.length<=1073741824) :
  a0b (E0 X) 26 [.ptr 0 0,.sl 1 (keep.map boA),.sl 2 (ts.map trA)] (a1c v) (fun r H'=>r=.ptr 3 0 /\ H'.take 6=a1c v++b5E 3 (v.crash keep ts)):=by
 have hll:=hv.load.2.2
 have hol:=hv.len
 refine Z0 Proofs.Tryz.func26 rfl Proofs.Tryz.ntmps26 (by kernel_rfl) rfl ?_
 repeat' (first|refine Zs rfl ?_|refine Zc rfl ?_|refine Qa rfl ?_)
 refine a1h (fun _=>rfl) rfl ?_
 refine a0b.mono (d1Y X (a1c v) _ v.image (by omega) (a0z rfl rfl rfl (by simp) (by simp))) ?_
 rintro r H' (⟨-,rfl,rfl⟩|⟨hn,-,-⟩)
 rotate_left
 ·exact absurd hv.load hn
 refine nx rfl rfl ?_
 repeat' (first|refine Zs rfl ?_|refine Zc rfl ?_|refine Qa rfl ?_)
 refine Cn rfl (d1X X _ 2 v.old rfl) rfl rfl ?_
 repeat' (refine Qa rfl ?_)
 refine Cn rfl (d1H X _ 6 2 v.old rfl rfl hv.nd (fun p hp=>by have:=hv.keys p hp;omega) (by omega)) rfl rfl ?_
 repeat' (first|refine Zs rfl ?_|refine Zc rfl ?_)
 refine a0q (fun j:Nat=>⟨[(0,.ptr 0 0),(1,.sl 1 (keep.map boA)),(2,.sl 2 (ts.map trA)),(7,.ptr 3 0),(24,.own 7 0 v.old.length),(25,.int .i64 v.old.length),(26,.int .i64 j)],crH v (d1t v.image v.old keep ts j)⟩)
  (fun j=>j<=v.old.length) (fun j=>v.old.length - j) 0 (Nat.zero_le _) ?_ ?_
 ·exact kk 8 (d1F _ _) rfl (by simp [a0g,a0e])
 rintro j hj
 have hpl:=d1u hv (keep:=keep) (ts:=ts) j
 have hnext:=d1o (img:=v.image) (old:=v.old) (keep:=keep) (ts:=ts) (j:=j)
 generalize himg:d1t v.image v.old keep ts j=img at *
 show AWp _ _ _ _ _ ⟨[(0,.ptr 0 0),(1,.sl 1 (keep.map boA)),(2,.sl 2 (ts.map trA)),(7,.ptr 3 0),(24,.own 7 0 v.old.length),(25,.int .i64 v.old.length),(26,.int .i64 j)],crH v img⟩
 rw [d1s]
 repeat' (first|refine Zs rfl ?_|refine Zc rfl ?_)
 refine a0d rfl (fun h3=>?_) (fun h3=>?_)
 ·have hj3:j < v.old.length:=by omega
  obtain ⟨i,hi⟩:∃ i,(d1j v.old)[j]?=some i:=⟨_,List.getElem?_eq_getElem (by rw [d1G];exact hj3)⟩
  obtain ⟨q,rfl,hq,ho64,jj,hjj,hold⟩:=d1x hv hi
  obtain ⟨hb0,hb1⟩:=d1m j keep ts
  obtain ⟨n,hn⟩:=Int.eq_ofNat_of_zero_le hb0
  have hn64:n<=64:=by omega
  have hnx:d1t v.image v.old keep ts (j+1)=bkN img (d1k v.old q) q n:=by rw [hnext];simp [d1A,hi,hn]
  generalize hoo:d1k v.old q=o at *
  have hsp:=d2g (img:=img) (o:=o) (i:=q) (n:=n) (by omega) ho64 hn64
  have hbl:(bkN img o q n).length=img.length:=d1E (by omega) ho64 hn64
  have hns:(v.old.map c0P).map (·.1)=(v.old.map (·.1)).map (AV.int .i64):=by simp [c0P]
  have hy:((v.old.map c0P).map (·.2))[jj]?=some (.agg (o.map u8A)):=by simp [hold,c0P]
  repeat' (first|refine Zs rfl ?_|refine Zc rfl ?_|refine Qa rfl ?_)
  refine a1Y (j:=j) (p:=j) (rfl) (by first|omega|assumption|(simp;omega)) (by omega) rfl rfl rfl rfl rfl rfl rfl rfl ?_
  refine nx rfl rfl ?_
  repeat' (refine Qa rfl ?_)
  refine a2C rfl rfl (y:=.int .i64 (q:Int)) (by simp [hi]) rfl rfl rfl ?_
  refine nx rfl rfl ?_
  repeat' (first|refine Zs rfl ?_|refine Zc rfl ?_|refine Qa rfl ?_)
  refine d1r rfl rfl rfl rfl rfl rfl hns hv.nd rfl hjj hy ?_
  show Nx _ (.agg (o.map u8A)) _
  refine nx0 ?_
  repeat' (first|refine Zs rfl ?_|(refine Qb rfl ?_))
  apply a4L rfl rfl rfl
  ·show Nat.beq (o.map u8A).length 64=true
   simp [ho64]
  ·show (o.map u8A).all a6W=true
   exact List.all_eq_true.2 (d1I o)
  ·rfl
  ·show Nat.ble (0+(o.map u8A).length) 64=true
   simp [ho64]
  have hset:spl (List.replicate 64 (AV.int .u8 0)) 0 (o.map u8A)=o.map u8A:=by
   unfold spl
   rw [List.drop_of_length_le (by simp [ho64])]
   simp
  show Nx _ _ (List.set _ 8 (some (.cells (spl (List.replicate 64 (AV.int .u8 0)) 0 (o.map u8A)) _)))
  rw [hset]
  refine nx0 ?_
  repeat' (first|refine Zs rfl ?_|refine Zc rfl ?_|refine Qa rfl ?_|refine Qh ?_)
  refine Ck (fun _=>rfl) rfl (a0f (E:=E0 X) (fun X=>d2c X j keep ts hts) (by simp [a0e,a0g]) _) ?_
  refine nx0 ?_
  rw [hn]
  repeat' (first|refine Zs rfl ?_|refine Zh ?_|refine Qs ?_)
  refine a0t (a0X (id:=8) (cs:=o.map u8A) rfl) ?_
  refine a0t (a0i 8 (by simp [a1c]) (d1F v img) (by rw [d1s];rfl) (by simp) (sl':=[(0,.ptr 0 0),(1,.sl 1 (keep.map boA)),(2,.sl 2 (ts.map trA)),(7,.ptr 3 0),(9,.int .i64 (q:Int)),(10,.fp (o.map u8A)),(11,.int .i64 (n:Int)),(24,.own 7 0 v.old.length),(25,.int .i64 v.old.length),(26,.int .i64 j)]) ?_) ?_
  ·repeat' (first|exact a0k|refine a0a ⟨?_,?_⟩ ?_)
   all_goals (try first|exact rfl|exact trivial|(simp [a0g,a0e];done))
  rw [d1s]
  refine a0o [2,7] [0,1,3,5,6] (by exact rfl) ?_
  refine a0C (fuel:=0) [0,1,3,5,6,2,4,7] (by exact rfl) (by kernel_rfl) (by kernel_rfl) ?_
  repeat' (refine Zd rfl ?_)
  apply a0Q rfl rfl rfl rfl
  ·intro H9
   refine d1w (l:=n) (h:=64) (n:=64) (out:=(o.drop n).map u8A) (a0r rfl rfl) (a1t) (by omega) (by omega) (by simp [ho64]) (by decide) (List.all_eq_true.2 (d1I o)) (by rw [List.take_of_length_le (by simp [ho64]),List.map_drop]) rfl rfl rfl rfl rfl ?_
   exact nx0 ⟨rfl,rfl⟩
  refine a1D rfl rfl rfl ?_
  refine Cn rfl (d2i (Dv.fresh img) q (by show img.length<=_;omega) (by show _<=img.length;omega) (a1c v) [some (.cells [.mp 2] 110),some (.arr ((d1j v.old).map (.int .i64)) 3)] 3 rfl) rfl rfl ?_
  skip
  apply ds rfl rfl rfl rfl
  ·refine a7g (l:=n) (h:=64) (lo':=q * 64+n) (n':=64 - n) (a0r rfl rfl) (a1t) (by omega) (by first|omega|(simp;omega)) (by omega) (by omega) rfl rfl rfl rfl rfl rfl rfl ?_
   exact nx rfl rfl ⟨rfl,rfl⟩
  skip
  refine a1D rfl rfl rfl ?_
  have hdl:((o.drop n).map u8A).length=64 - n:=by simp [ho64]
  rw [hdl,Nat.min_self] at hsp
  refine d2h (out:=(bkN img o q n).map u8A) (q:=64 - n) (by show _<=(List.map u8A (Dv.fresh img).image).length;simp [Dv.fresh];omega) (rfl) (a0P _) (by rw [hdl,Nat.min_self];exact hsp) (by rw [hdl,Nat.min_self]) rfl rfl rfl rfl rfl rfl rfl rfl ?_
  refine nx rfl rfl ?_
  repeat' (first|refine Zs rfl ?_|refine Zc rfl ?_|refine Zh ?_|refine Qk ?_|refine Qs ?_|refine Qw (by kernel_rfl) ?_)
  refine ⟨j+1,by omega,by omega,?_⟩
  rw [hnx]
  refine a0i 8 (by simp [a1c]) (d1F _ _) (by rw [d1s,hbl];rfl) (by simp) ?_
  repeat' (first|exact a0k|refine a0a ⟨?_,?_⟩ ?_)
  all_goals (try first|exact rfl|exact trivial|(simp [a0g,a0e];done)|(refine congrArg (AV.int .i64) (a0u ?_ ?_ ?_) <;> (first|omega|(simp;omega))))
 have hj3:j=v.old.length:=by omega
 subst hj3
 have e:v.crash keep ts=Dv.fresh img:=by rw [<- himg];rfl
 rw [e]
 repeat' (first|refine Zs rfl ?_|refine Zc rfl ?_|refine Zh ?_|refine Qs ?_)
 refine a0c ⟨_,rfl,?_,?_⟩
 ·rfl
 ·rfl
theorem d1z(n:Nat)(l:List (Int × List UInt8)):a0e n ((l.map c0P).map (·.1)) /\ a0e n ((l.map c0P).map (·.2)) :=
 ⟨a0x (Nat.zero_le _) (d1e l).1,a0x (Nat.zero_le _) (d1e l).2⟩
theorem d1O(s q:Nat)(v:Dv):a1U (sh s q 3) (b5E 3 v)=b5E (3+s+q) v:=by
 simp [a1U,b5E,rnO,rnL,rnA,sh,a1X (f:=u8A) (fun _=>rfl)]
 have:=b8j (g:=sh s q 3) v.old
 refine ⟨⟨by omega,by omega⟩,by simpa using this⟩
theorem d1v(v c:Dv):HOk 6 (a1c v++b5E 3 c):=fun j o ho=>by
 match j,ho with
 | 0,ho=>cases ho;exact ⟨by simp [a0g],by simp [a0g],trivial,trivial,trivial,trivial⟩
 | 1,ho=>cases ho;exact a0h fun _=>a0n
 | 2,ho=>cases ho;exact d1z _ _
 | 3,ho=>cases ho;exact ⟨by simp [a0g],by simp [a0g],trivial,trivial,trivial,trivial⟩
 | 4,ho=>cases ho;exact a0h fun _=>a0n
 | 5,ho=>cases ho;exact d1z _ _
theorem d1U(X:Nat->Prop)(v:Dv)(hv:v.Inv)(keep:List Bool)(ts:List Tr)(hts:ts.length<=1073741824) :
  a0b (E0 X) 26 [.ptr 0 0,.sl 1 (keep.map boA),.sl 2 (ts.map trA)] (a1c v) (fun r H'=>r=.ptr 3 0 /\ H'=a1c v++b5E 3 (v.crash keep ts)) :=
 a0b.imp (d1T X v hv keep ts hts) fun r H' ⟨h1,h2⟩=>by
  subst h1
  have hl:6<=H'.length:=by
   have:=congrArg List.length h2
   rw [List.length_take] at this
   have e:(a1c v++b5E 3 (v.crash keep ts)).length=6:=rfl
   omega
  exact ⟨_,_,⟨rfl,rfl⟩,a0i 6 (by simp [a1c]) (d1v _ _) h2 hl (a0a ⟨rfl,by simp [a0g]⟩ a0k)⟩
theorem d1J(X:Nat->Prop)(v:Dv)(hv:v.Inv)(keep:List Bool)(ts:List Tr)(hts:ts.length<=1073741824)(L R:Hp)(s:Nat)(hs:L.length=s) :
  a0b (E0 X) 26 [.ptr s 0,.sl 1 (keep.map boA),.sl 2 (ts.map trA)] (L++b5E s v++R) (fun r H'=>r=.ptr (3+s+R.length) 0 /\ H'=L++b5E s v++R++b5E (3+s+R.length) (v.crash keep ts)):=by
 refine (c3w (fun X=>d1U X v hv keep ts hts) ⟨a0h fun _=>b6b,a0h fun _=>d1Z,trivial⟩ L R s hs).mono ?_
 rintro r H' ⟨r1,h',⟨rfl,rfl⟩,rfl,rfl⟩
 refine ⟨by simp [rnA,sh],?_⟩
 show L++a1U (sh s R.length 3) (a1c v)++R++a1U (sh s R.length 3) (b5E 3 _)=_
 rw [a3j,d1O]
structure Tw where
 s:Sb
 ps:List Pt
 now:Int
 less:Int
def twL(t:Tw):List AV:=sbL t.s++[.sl 33 (t.ps.map ptA),.int .i64 t.now,.int .i64 t.less]
theorem d2a{n:Nat}(t:Tw):a0e n (twL t):=⟨trivial,trivial,trivial,trivial,trivial,trivial,trivial,trivial,trivial,trivial,trivial,trivial,trivial,a0h fun _=>a1u,c2L t.ps,trivial,trivial,trivial⟩
theorem d1Q{X:Nat->Prop}{xs:List AV}(h:b0F (E0 X) 7 76 xs):∃ t:Tw,xs=twL t /\ t.ps.length<=maxLen /\ ∀ p ∈ t.ps,c8Y p:=by
 have h1:c8C (E0 X) (b0F (E0 X) 6) [(0,26),(14,27),(15,3),(16,3)] xs:=h
 obtain ⟨a,_,rfl,ha,b,_,rfl,hb,_,_,rfl,⟨n,rfl,_⟩,_,_,rfl,⟨m,rfl,_⟩,rfl⟩:=h1
 obtain ⟨s,rfl,_⟩:=d0t ha
 have hb1:∃ es,b=[.sl 33 es] /\ es.length<=maxLen /\ ∀ y ∈ es,∃ ys,y=elA true ys /\ b0F (E0 X) 5 91 ys:=hb
 obtain ⟨_,rfl,_⟩:=hb1
 obtain ⟨l,h2,h3,h4⟩:=d0x hb
 rw [h2]
 exact ⟨⟨s,l,n,m⟩,rfl,h3,h4⟩
theorem c5K.now_le{img:List UInt8}{pl:List Pl}{now:Int}{s:Sb}{x:RSt}(hs:sbB s=true)(hn:0<=now /\ now<=549755813888)(h:c5K img pl now s x):0<=x.now /\ x.now<=549755813888:=by
 have h1:=b8D hs
 rw [h.now]
 refine ⟨Int.le_trans (by omega) (d0W _ _),d2e (by omega) fun y hy=>?_⟩
 obtain ⟨r,hr,rfl⟩:=List.mem_map.1 hy
 exact (a8f (b3s hr).1.hd).2.2.2.2.2.2.2
theorem a4x.again{img:List UInt8}{o:Option Sb}{fit:Sb->Bool}{pl:Sb->List Pl}{now less:Int}{x y:RSt}{f:Int}(hs:∀ s,o=some s->sbB s=true)(hl:less<=x.now)(h:a4x img o fit pl now x 0)(h2:a4x img o fit pl (max less now) y f):f=0 /\ y=x:=by
 rcases h with ⟨_,n1,n2,s,h1,hf,hx⟩|⟨h,_⟩|⟨h,_⟩
 ·have hb:=hs s h1
  have hx2:=hx.now_le hb ⟨n1,n2⟩
  rcases h2 with ⟨h3,_,_,s2,h4,_,hy⟩|⟨_,_,h3⟩|⟨_,_,_,_,h3⟩
  ·rw [h1] at h4
   cases h4
   refine ⟨h3,?_⟩
   have e:x.now=mxL (max (max less now) s.now) ((a3T (a2O img) (a1n s)).map (·.h.now)):=by
    rw [Int.max_assoc,b7u,<- hx.now]
    omega
   exact (c5K.unique hb ⟨hx.sb,hx.plans,hx.tail,e,hx.next,hx.live,hx.pairs⟩ hy).symm
  ·exact absurd ⟨by omega,by omega⟩ h3
  ·rw [h3 s h1] at hf;cases hf
 ·cases h
 ·cases h
theorem d1D(less:Int){n:Int}(h0:0<=n)(h1:n<=549755813888):∃ k:Int,(IntKind.i64.wrap (IntKind.i64.wrap (less.tmod (IntKind.i64.wrap (n+1))+n)+1)).tmod (IntKind.i64.wrap (n+1))=k /\ 0<=k /\ k<=n:=by
 have e:IntKind.i64.wrap (n+1)=n+1:=a0p (by omega) (by omega)
 rw [e]
 have h2:-(n+1) < less.tmod (n+1) /\ less.tmod (n+1) < n+1:=by
  constructor
  ·have:=Int.lt_tmod_of_pos less (show 0 < n+1 by omega);omega
  ·exact Int.tmod_lt_of_pos less (by omega)
 rw [show IntKind.i64.wrap (less.tmod (n+1)+n)=less.tmod (n+1)+n from a0p (by omega) (by omega),show IntKind.i64.wrap (less.tmod (n+1)+n+1)=less.tmod (n+1)+n+1 from a0p (by omega) (by omega)]
 refine ⟨_,rfl,?_⟩
 rw [Int.tmod_eq_emod_of_nonneg (by omega)]
 have:=Int.emod_nonneg (less.tmod (n+1)+n+1) (show n+1 ≠ 0 by omega)
 have:=Int.emod_lt_of_pos (less.tmod (n+1)+n+1) (show 0 < n+1 by omega)
 omega
theorem d1K(X:Nat->Prop)(v:Dv)(hv:v.Inv)(R:Hp) :
  a0b (E0 X) 26 [.ptr 0 0,.nils,.nils] (a1c v++R) (fun r H'=>r=.ptr (3+R.length) 0 /\ H'=a1c v++R++b5E (3+R.length) (v.crash [] [])) :=
 a0b.wkA (d1J X v hv [] [] (by decide) [] R 0 rfl) (a0G (a3a b9t (a3a b9t a6M)))
theorem d1M(X:Nat->Prop)(v:Dv)(n:Nat)(hv:Lv n v)(hn:n<=20000)(now:Int)(L R:Hp)(s:Nat)(hs:L.length=s):a0b (E0 X) 18 [.ptr s 0,.int .i64 now] (L++b5E s v++R)
  (fun r H'=>∃ x e,a4x v.image (a2R v) (fun s=>!(a1n s).any (nfB v)) (fun s=>a8K v s.mig) now x e /\ r=.tup [.agg (rsL x),.int .i64 e] /\ H'=L++b5E s v++R) :=
 (c3w (fun X=>b7l X v n hv hn now) ⟨trivial,trivial⟩ L R s hs).mono fun r H' ⟨r1,h',⟨x,e,h1,h2,h3⟩,h4,h5⟩=>by
  subst h2;subst h3
  refine ⟨x,e,h1,h4.trans (a2r _ ⟨a6D x,trivial,trivial⟩),h5.trans ?_⟩
  show L++a1U (sh s R.length 3) (a1c v)++R++[]=_
  subst hs
  rw [a3j,List.append_nil]
theorem d1B(X:Nat->Prop)(t:Tw)(hp:∀ p ∈ t.ps,c8Y p)(hpl:t.ps.length<=maxLen):a0b (E0 X) 7 [.agg (twL t)] [] (fun r H'=>r=.bool true /\ H'=[]):=by
 refine a0b.cut0 ?_ trivial
 obtain ⟨s,ps,now,less⟩:=t
 replace hp:∀ p ∈ ps,c8Y p:=hp
 replace hpl:ps.length<=maxLen:=hpl
 have hpp:∀ {n},a0g n (.sl 33 (ps.map ptA)):=c2L ps
 have hsi:∀ {n},a0g n (.fp (sbL s)):=b0u s
 have hdv:=c0k X s ps hp hpl
 refine Z0 Proofs.Tryz.func7 rfl Proofs.Tryz.ntmps7 (by kernel_rfl) rfl ?_
 refine Zc rfl (Zc rfl (Zs rfl (Zs rfl (Zh ?_))))
 refine Kz 0 [1,2] 0 a2T rfl rfl ⟨(d2a ⟨s,ps,now,less⟩:a0g _ (.fp _)),trivial,trivial⟩ ?_
 repeat' (refine Zc rfl ?_)
 refine a0o [8,9] [0,1,2,3,4,5,6,7,10,11,12] (by exact rfl) ?_
 refine a0C (fuel:=0) [0,1,2,3,4,5,6,7,8,9,10,11,12] (by exact rfl) (by kernel_rfl) (by kernel_rfl) ?_
 repeat' (first|refine Zd rfl ?_|refine Zk ?_)
 refine Qw (by kernel_rfl) (Kz 0 [2,3,4,5,6] 0 a2T rfl rfl ⟨trivial,hsi,hpp,trivial,trivial,trivial⟩ ?_)
 repeat' (first|refine Zs rfl ?_|refine Zc rfl ?_)
 refine Qa rfl ?_
 refine a1h (fun _=>rfl) rfl ?_
 refine a0b.mono hdv ?_
 rintro r H' (⟨img,hd,rfl,rfl⟩|⟨rfl,rfl,-⟩)
 rotate_left
 ·refine nx rfl rfl ?_
  repeat' (first|refine Zs rfl ?_|refine Zc rfl ?_)
  refine Zp rfl rfl (b0g X) rfl ?_
  repeat' (refine Zs rfl ?_)
  refine a0c ⟨_,rfl,rfl⟩
 refine nx rfl rfl ?_
 obtain ⟨hok,him⟩:=d0u hd
 clear hdv hd
 repeat' (first|refine Zs rfl ?_|refine Zc rfl ?_)
 by_cases hn1:now < 0
 ·rw [decide_eq_true hn1]
  repeat' (first|refine Zs rfl ?_|refine Zc rfl ?_)
  refine Zp rfl rfl (b0g X) rfl ?_
  repeat' (refine Zs rfl ?_)
  refine a0c ⟨_,rfl,rfl⟩
 rw [decide_eq_false hn1]
 repeat' (refine Zs rfl ?_)
 by_cases hn2:now > 549755813888
 ·rw [decide_eq_true hn2]
  repeat' (refine Zc rfl ?_)
  refine Zp rfl rfl (b0g X) rfl ?_
  repeat' (refine Zs rfl ?_)
  refine a0c ⟨_,rfl,rfl⟩
 rw [decide_eq_false hn2]
 repeat' (first|refine Zs rfl ?_|refine Zc rfl ?_)
 refine Qa rfl ?_
 refine a1h (fun _=>rfl) rfl ?_
 refine a0b.mono (a9V X img (by omega)) ?_
 rintro r H' (⟨-,rfl,rfl⟩|⟨h,-,-⟩)
 rotate_left
 ·exact absurd hok h
 refine nx rfl rfl ?_
 have hlv:Lv img.length (Dv.fresh img):=a9Y hok
 have hbv:∀ s,a2R (Dv.fresh img)=some s->sbB s=true:=fun s h=>a9U h
 have hcr:(Dv.fresh img).crash [] []=Dv.fresh img:=rfl
 have himg:(Dv.fresh img).image=img:=rfl
 have hldx:=b7l X (Dv.fresh img) img.length hlv (by omega) now
 have hlda:=fun now2=>d1M X (Dv.fresh img) img.length hlv (by omega) now2 (a1c (Dv.fresh img)) [] 3 rfl
 have hcc:=d1K X (Dv.fresh img) hlv.inv []
 rw [hcr] at hcc
 generalize Dv.fresh img=v at *
 repeat' (first|refine Zs rfl ?_|refine Zc rfl ?_)
 refine Zx (ι:=RSt × Int) (P:=fun q=>a4x img (a2R v) (fun s=>!(a1n s).any (nfB v)) (fun s=>a8K v s.mig) now q.1 q.2) (r0:=fun q=>.tup [.agg (rsL q.1),.int .i64 q.2]) (h0:=fun _=>a1c v) rfl rfl (hldx.mono fun r H' ⟨x,e,h1,h2,h3⟩=>⟨(x,e),by rw [himg] at h1;exact h1,h2,h3⟩) rfl ?_
 rintro ⟨x,e⟩ hx
 replace hx:a4x img (a2R v) (fun s=>!(a1n s).any (nfB v)) (fun s=>a8K v s.mig) now x e:=hx
 obtain ⟨hs1,hs2,hs3⟩:=hx.small hbv (by omega)
 dsimp only
 repeat' (refine Zs rfl ?_)
 have hxi:∀ {n},a0g n (.fp (rsL x)):=a6D x
 refine Zh (Kz 3 [5,6,9,10,11] 3 (a1N v) rfl rfl ⟨trivial,trivial,Nat.zero_lt_succ 2,hxi,trivial,trivial⟩ ?_)
 repeat' (first|refine Zs rfl ?_|refine Zc rfl ?_)
 by_cases he:e ≠ 0
 ·rw [decide_eq_true he]
  repeat' (refine Zc rfl ?_)
  refine Zp rfl rfl (b0g X) rfl ?_
  repeat' (refine Zs rfl ?_)
  refine a0c ⟨_,rfl,rfl⟩
 rw [decide_eq_false he]
 have he0:e=0:=Classical.not_not.1 he
 subst he0
 have hxn:0<=x.now /\ x.now<=549755813888:=by
  rcases hx with ⟨_,n1,n2,s,h1,_,h2⟩|⟨h,_⟩|⟨h,_⟩
  ·exact h2.now_le (hbv s h1) ⟨n1,n2⟩
  ·cases h
  ·cases h
 obtain ⟨k,hk,hk0,hk1⟩:=d1D less hxn.1 hxn.2
 have hne:IntKind.i64.wrap (x.now+1) ≠ 0:=by rw [show IntKind.i64.wrap (x.now+1)=x.now+1 from a0p (by omega) (by omega)];omega
 repeat' (refine Zc rfl ?_)
 refine a0m [] [] (by exact rfl) (by kernel_rfl) ?_
 repeat' (refine Zd rfl ?_)
 apply ds rfl rfl rfl rfl
 ·refine b1D rfl rfl hne ?_
  exact nx rfl rfl ⟨rfl,rfl⟩
 repeat' (refine Zd rfl ?_)
 apply ds rfl rfl rfl rfl
 ·refine b1D rfl rfl hne ?_
  rw [hk]
  exact nx rfl rfl ⟨rfl,rfl⟩
 repeat' (first|refine Zs rfl ?_|refine Zc rfl ?_|refine Zd rfl ?_)
 refine Zf rfl rfl (hcc) rfl rfl rfl ?_
 repeat' (refine Zs rfl ?_)
 refine Zx (ι:=RSt × Int) (P:=fun q=>a4x img (a2R v) (fun s=>!(a1n s).any (nfB v)) (fun s=>a8K v s.mig) (max k now) q.1 q.2) (r0:=fun q=>.tup [.agg (rsL q.1),.int .i64 q.2]) (h0:=fun _=>a1c v++b5E 3 v++[]) rfl rfl ((hlda (max k now)).mono fun r H' ⟨x,e,h1,h2,h3⟩=>⟨(x,e),by rw [himg] at h1;exact h1,h2,h3⟩) rfl ?_
 rintro ⟨y,f⟩ hy
 obtain ⟨hf0,hyx⟩:=hx.again hbv hk1 hy
 have hf0:f=0:=hf0
 have hyx:y=x:=hyx
 have hr1:y.rs.length<=48:=by rw [hyx];exact hs1
 have hp1:y.ps.length<=60000:=by rw [hyx];exact hs2
 clear hx hy hxn hk hk0 hk1 hs1 hs2 hs3 hne
 subst hyx
 subst hf0
 dsimp only
 repeat' (first|refine Zs rfl ?_|refine Zc rfl ?_)
 refine Zp rfl rfl (b0g X) rfl ?_
 repeat' (refine Zs rfl ?_)
 rw [decide_eq_true (rfl:y.now=y.now)]
 repeat' (refine Zs rfl ?_)
 refine Zp rfl rfl (c7m y.rs (by omega) X) rfl ?_
 repeat' (refine Zs rfl ?_)
 rw [decide_eq_true (rfl:y.next=y.next)]
 repeat' (refine Zs rfl ?_)
 refine Zp rfl rfl (c7d y.ps (by omega) X) rfl ?_
 repeat' (refine Zs rfl ?_)
 refine a0c ⟨_,rfl,rfl⟩
end Go.Abs
namespace Go.Proofs.YtkmmdlicifiknaaGreatDoor
open Go.Abs Go.RowKit Go.ChangeShapes Go.WideShapes
theorem recoveryTwiceLifted(os:Os)(started:os.Started)(H:Type)(enc:TypeId × Value->H) :
  ReturnsInHanded {} Tryz.checked os 7 .any (fun w args=>(Rows.recoveryTwiceSpec.pre enc Tryz.prog Tryz.f7 [] false w args ∧ laidMetH Tryz.prog [("flashcache/crc.table",Rows.laid_flashcache_crc_table)] w) ∧ sizedMet enc Tryz.prog Tryz.f7 (OpenSpec.ofChange Rows.recoveryTwiceSpec) false w args)
   (Rows.recoveryTwiceSpec.post enc Tryz.prog Tryz.f7 false Rows.recoveryTwiceRow.fresh Rows.recoveryTwiceRow.handsOn Rows.recoveryTwiceRow.again):=by
 refine returnsInHanded_of_change_and (C:=Tryz.checked) (X:=fun w _=>laidMetH Tryz.prog [("flashcache/crc.table",Rows.laid_flashcache_crc_table)] w) (fun _ _ _ hh h=>h.of_heap hh) own0 started (by kernel_rfl) Tryz.func7
  (ChangeSpec.witness_shaped (enc:=enc) (C:=Tryz.checked) (os:=os) (X:=fun w _=>laidMetH Tryz.prog [("flashcache/crc.table",Rows.laid_flashcache_crc_table)] w) false (World.doorLaid Tryz.prog 400 os) #[.agg #[.int .i64 0,.int .i64 0,.int .i64 0,.int .i64 0,.int .i64 0,.int .i64 0,.int .i64 0,.int .i64 0,.int .i64 0,.int .i64 0,.int .i64 0,.int .i64 0,.int .i64 0,.slice none 0 0,.slice none 0 0,.int .i64 0,.int .i64 0]] 8 rfl (World.shaped_of_RefB (by kernel_rfl) (by kernel_rfl)) (by kernel_rfl) (by kernel_rfl) (by kernel_rfl) (c0n os _)) ?_
 intro W base args ds gs before hval0 hW _ _ hL _
 have hval:∀ (j:Nat) t v,Tryz.f7.params[j]?=some t->args[j]?=some v->Value.okWide Tryz.prog W .any base t v:=hval0
 have hW2:=hW
 obtain ⟨p,q,hA0,hV,_,_,_⟩:=hW2
 have hA:DataW.TrodAll enc Tryz.prog W 0 (fun _=>true) true [76] args.toList ds p:=hA0
 obtain ⟨rfl,rfl⟩:=trodVars_none hV
 obtain ⟨v0,d0,rfl,rfl,t0⟩:=trodAll_one hA
 obtain ⟨x0,r0,c0⟩:=d0y (E:=E0 fun _=>False) (c3j _) (fun _ h=>h) (f:=7) rfl rfl (hval 0 76 v0 rfl rfl) t0
 obtain ⟨l0,rfl,h0⟩:=d1Q c0
 exact b7h (E:=E0 fun _=>False) (avs:=[.agg (twL l0)]) (tb:=4) (c3j _) (b0X hL) (by kernel_rfl) rfl (by kernel_rfl) (by kernel_rfl) (by kernel_rfl) rfl rfl rfl hW (fun _ h=>h)
  (RelL.cons r0 (by simp [Abs.RelL])) (d1B _ l0 h0.2 h0.1)
theorem recoveryTwice_holds:Rows.RecoveryTwiceSaid :=
 OpenClaim.holds_of_wide 7 Tryz.f7 rfl rfl rfl rfl rfl rfl rfl ⟨rfl,rfl,rfl,rfl,rfl⟩ rfl rfl rfl rfl rfl (by kernel_rfl) Tryz.func7 (by kernel_rfl)
  (of_decide_eq_true (by kernel_rfl)) (by unfold Func.isWrapper;rw [if_neg (of_decide_eq_false (by kernel_rfl))];exact ⟨rfl,rfl⟩)
  (fun os started H enc _=>recoveryTwiceLifted os started H enc)
theorem recoveryTwice_card:Rows.RecoveryTwiceCardSaid :=
 Claim7.holds_tied_plain_at .later [] [.data] true (true,"318a5a10ab542dae29572fd2e20a33e819e3a727377adc8eb894a6dfcaf7bbb1") false
  recoveryTwice_holds (fun _ h=>by cases h) (by kernel_rfl) (fun _ h=>by cases h) recoveryTwice_row_tie rfl ⟨rfl,rfl⟩ (by kernel_rfl) rfl
  (fun f fn hf hfn=>by
   obtain rfl:f=7:=Option.some.inj ((show Tryz.prog.funcNamed "flashcache/flashcachelaw23.RecoveryTwice"=some 7 by kernel_rfl).symm.trans hf) |>.symm
   obtain rfl:fn=Tryz.f7:=(Option.some.inj (Tryz.func7.symm.trans hfn)).symm
   exact ⟨by kernel_rfl,fun j t ht=>by
    have ht:(#[76]:Array TypeId)[j]?=some t:=ht
    have hm:t ∈ [76]:=by simpa using Array.mem_of_getElem? ht
    have hall:([76].all fun u=>!Tryz.prog.wantsStandIn u)=true:=by kernel_rfl
    exact (show Tryz.prog.wantsStandIn t=false by simpa using List.all_eq_true.1 hall t hm)⟩)
  (by kernel_rfl)
end Go.Proofs.YtkmmdlicifiknaaGreatDoor
