/- maps.Keys of a device's map, over any heap. Joined texts, each with what its own name promises; no condition beyond those stated. -/
import Derived.Test.YtlndakkehobnpaaDoorPF
import Derived.Test.YtlndakkehobnpaaDoorMC
import Derived.Shelf.SlIterI.Nil
import Derived.Shelf.SortM.Plain
import Derived.Shelf.SortM.SortNone
import Derived.Test.YtlndakkehobnpaaDoorProg
import Derived.KernelRfl
import Derived.Test.YtlndakkehobnpaaDoorPJ
namespace Go.Abs
theorem hok_map (es : List (AV × AV)) (h1 : IdsLtL 0 (es.map (·.1))) (h2 : IdsLtL 0 (es.map (·.2))) : HOk 1 [some (.map es)] := fun j o ho => by
  match j, ho with
  | 0, ho => cases ho; exact ⟨ids_mono (Nat.zero_le _) h1, ids_mono (Nat.zero_le _) h2⟩
theorem old_ids (l : List (Int × List UInt8)) : IdsLtL 0 ((l.map oldA).map (·.1)) ∧ IdsLtL 0 ((l.map oldA).map (·.2)) := by
  rw [List.map_map, List.map_map]
  exact ⟨idsL_map fun _ => trivial, idsL_map fun p => (idsL_map (f := u8A) fun _ => u8A_ids : IdsLtL 0 (p.2.map u8A))⟩
attribute [local irreducible] AStep aops AWp Nx awM
set_option maxHeartbeats 0 in
theorem keys_c (X : Nat → Prop) (l : List (Int × List UInt8)) : ACalls (E0 X) 96 [.mp 0] [some (.map (l.map oldA))]
    (fun r H' => r = .clo (.func 133) [] [.ptr 1 0] ∧ H' = [some (.map (l.map oldA)), some (.cells [.mp 0] 116)]) := by
  refine acalls_of Proofs.Tryd.func96 rfl Proofs.Tryd.ntmps96 (by kernel_rfl) rfl ?_
  intro hH hargs
  clear hH hargs
  repeat' (first | ((refine Qa rfl ?_); (first | refine Q1 ?_ | refine QK rfl ?_ | refine QN ?_); (refine QX rfl rfl ?_)) | refine Qh ?_ | refine Ql ?_ | refine Qo rfl ?_ | refine Qs ?_)
  refine awp_ret ?_
  refine ⟨_, rfl, ?_, ?_⟩
  · rfl
  · rfl
theorem keys_at (X : Nat → Prop) (H : Hp) (id : Nat) (l : List (Int × List UInt8)) (ho : H[id]? = some (some (.map (l.map oldA)))) : ACalls (E0 X) 96 [.mp id] H
    (fun r H' => r = .clo (.func 133) [] [.ptr H.length 0] ∧ H' = H ++ [some (.cells [.mp id] 116)]) := by
  have e : rnO (reN [id] H.length) (.map (l.map oldA)) = .map (l.map oldA) := by simp only [rnO]; rw [rnMap_old]
  have h := ACalls.frame (E := E0 X) (fun X => keys_c X l) [id] H (by simp) rfl (fun j => by
    match j with
    | 0 => simp
    | j + 1 => simp) (fun j i o hj hh => by
    match j, hj, hh with
    | 0, hj, hh =>
      simp at hj hh
      subst hj hh
      rw [e]; exact ho) (by simp [IdsLtL, IdsLt]) (hok_map _ (old_ids l).1 (old_ids l).2)
  refine ACalls.mono h ?_
  rintro r H' ⟨r0, h', ⟨rfl, rfl⟩, _, rfl, rfl⟩
  refine ⟨?_, ?_⟩
  · simp [rnA, rnL, reN]
  · simp only [mrg, List.map_cons, List.map_nil, Option.map_some, e, setAll, List.length_cons, List.length_nil, Nat.zero_add, List.drop_succ_cons, List.drop_zero]
    rw [set_same ho]
    simp [rnO, rnL, rnA, reN]
end Go.Abs
namespace Go.Proofs
def Tryd.keysL_ren : Go.Shelf.Ren := ⟨fun | 10 => 133 | n => n, fun | 33 => 186 | 23 => 116 | 0 => 0 | 4 => 4 | 26 => 3 | 3 => 157 | n => n, fun | n => n⟩
theorem Tryd.keysL : Go.Proofs.SlLaysZI.n10 Tryd.prog Tryd.keysL_ren where
  mixed := by kernel_rfl
  f10 := ⟨Tryd.f133.name, by kernel_rfl, Tryd.func133.trans (congrArg some (by kernel_rfl))⟩
  t0 := Tryd.underlying0
  a0 := Tryd.isAgg0
  z0 := Tryd.sizeOf0
  v0 := Tryd.zeroValue0
  t4 := Tryd.underlying4
  a4 := Tryd.isAgg4
  z4 := Tryd.sizeOf4
  v4 := Tryd.zeroValue4
  t23 := Tryd.underlying116
  a23 := Tryd.isAgg116
  z23 := Tryd.sizeOf116
  v23 := Tryd.zeroValue116
  t26 := Tryd.underlying3
  a26 := Tryd.isAgg3
  z26 := Tryd.sizeOf3
  v26 := Tryd.zeroValue3
  t33 := Tryd.underlying186
  a33 := Tryd.isAgg186
  z33 := Tryd.sizeOf186
  v33 := Tryd.zeroValue186
def Tryd.sortedL_ren : Go.Shelf.Ren := ⟨fun | 6 => 95 | 8 => 131 | 9 => 132 | 11 => 156 | 13 => 141 | 12 => 157 | 23 => 160 | 24 => 161 | 14 => 163 | 15 => 164 | 16 => 165 | 17 => 166 | 18 => 167 | 19 => 168 | 20 => 169 | 21 => 170 | 22 => 171 | 25 => 172 | 26 => 173 | 27 => 174 | 28 => 175 | 29 => 176 | 30 => 177 | 31 => 178 | n => n, fun | 26 => 3 | 28 => 154 | 24 => 27 | 0 => 0 | 3 => 3 | 37 => 144 | 48 => 170 | 50 => 113 | 4 => 4 | 40 => 207 | 39 => 206 | 45 => 211 | 5 => 5 | 9 => 9 | 51 => 214 | 55 => 218 | 57 => 220 | 58 => 221 | 33 => 186 | n => n, fun | n => n⟩
theorem Tryd.sortedL : Go.Proofs.SlLaysZI.n6 Tryd.prog Tryd.sortedL_ren where
  mixed := by kernel_rfl
  f6 := ⟨Tryd.f95.name, by kernel_rfl, Tryd.func95.trans (congrArg some (by kernel_rfl))⟩
  f8 := ⟨Tryd.f131.name, by kernel_rfl, Tryd.func131.trans (congrArg some (by kernel_rfl))⟩
  f11 := ⟨Tryd.f156.name, by kernel_rfl, Tryd.func156.trans (congrArg some (by kernel_rfl))⟩
  t0 := Tryd.underlying0
  a0 := Tryd.isAgg0
  z0 := Tryd.sizeOf0
  v0 := Tryd.zeroValue0
  t24 := Tryd.underlying27
  a24 := Tryd.isAgg27
  z24 := Tryd.sizeOf27
  v24 := Tryd.zeroValue27
  t26 := Tryd.underlying3
  a26 := Tryd.isAgg3
  z26 := Tryd.sizeOf3
  v26 := Tryd.zeroValue3
  t28 := Tryd.underlying154
  a28 := Tryd.isAgg154
  z28 := Tryd.sizeOf154
  v28 := Tryd.zeroValue154
  i26 := by kernel_rfl
def Tryd.sortL_ren : Go.Shelf.Ren := ⟨fun | 5 => 132 | 8 => 141 | 7 => 157 | 19 => 160 | 20 => 161 | 10 => 163 | 11 => 164 | 12 => 165 | 13 => 166 | 14 => 167 | 15 => 168 | 16 => 169 | 17 => 170 | 18 => 171 | 30 => 172 | 31 => 173 | 32 => 174 | 33 => 175 | 34 => 176 | 35 => 177 | 40 => 178 | n => n, fun | 23 => 27 | 25 => 3 | 3 => 3 | 32 => 144 | 22 => 27 | 0 => 0 | 44 => 170 | 46 => 113 | 4 => 4 | 36 => 207 | 35 => 206 | 41 => 211 | 5 => 5 | 9 => 9 | 53 => 214 | 57 => 218 | 63 => 220 | 64 => 221 | n => n, fun | n => n⟩
theorem Tryd.sortL : Go.Proofs.SlLaysM.n5 Tryd.prog Tryd.sortL_ren where
  mixed := by kernel_rfl
  f5 := ⟨Tryd.f132.name, by kernel_rfl, Tryd.func132.trans (congrArg some (by kernel_rfl))⟩
  f7 := ⟨Tryd.f157.name, by kernel_rfl, Tryd.func157.trans (congrArg some (by kernel_rfl))⟩
  f8 := Tryd.func141.trans (congrArg some (by kernel_rfl))
  f10 := ⟨Tryd.f163.name, by kernel_rfl, Tryd.func163.trans (congrArg some (by kernel_rfl))⟩
  f11 := ⟨Tryd.f164.name, by kernel_rfl, Tryd.func164.trans (congrArg some (by kernel_rfl))⟩
  f12 := ⟨Tryd.f165.name, by kernel_rfl, Tryd.func165.trans (congrArg some (by kernel_rfl))⟩
  f13 := ⟨Tryd.f166.name, by kernel_rfl, Tryd.func166.trans (congrArg some (by kernel_rfl))⟩
  f14 := ⟨Tryd.f167.name, by kernel_rfl, Tryd.func167.trans (congrArg some (by kernel_rfl))⟩
  f15 := ⟨Tryd.f168.name, by kernel_rfl, Tryd.func168.trans (congrArg some (by kernel_rfl))⟩
  f16 := ⟨Tryd.f169.name, by kernel_rfl, Tryd.func169.trans (congrArg some (by kernel_rfl))⟩
  f17 := ⟨Tryd.f170.name, by kernel_rfl, Tryd.func170.trans (congrArg some (by kernel_rfl))⟩
  f18 := ⟨Tryd.f171.name, by kernel_rfl, Tryd.func171.trans (congrArg some (by kernel_rfl))⟩
  f19 := Tryd.func160.trans (congrArg some (by kernel_rfl))
  f20 := Tryd.func161.trans (congrArg some (by kernel_rfl))
  f30 := ⟨Tryd.f172.name, by kernel_rfl, Tryd.func172.trans (congrArg some (by kernel_rfl))⟩
  f31 := Tryd.func173.trans (congrArg some (by kernel_rfl))
  f32 := Tryd.func174.trans (congrArg some (by kernel_rfl))
  f33 := ⟨Tryd.f175.name, by kernel_rfl, Tryd.func175.trans (congrArg some (by kernel_rfl))⟩
  f34 := ⟨Tryd.f176.name, by kernel_rfl, Tryd.func176.trans (congrArg some (by kernel_rfl))⟩
  f35 := ⟨Tryd.f177.name, by kernel_rfl, Tryd.func177.trans (congrArg some (by kernel_rfl))⟩
  f40 := ⟨Tryd.f178.name, by kernel_rfl, Tryd.func178.trans (congrArg some (by kernel_rfl))⟩
  t0 := Tryd.underlying0
  a0 := Tryd.isAgg0
  z0 := Tryd.sizeOf0
  v0 := Tryd.zeroValue0
  t3 := Tryd.underlying3
  a3 := Tryd.isAgg3
  z3 := Tryd.sizeOf3
  v3 := Tryd.zeroValue3
  t4 := Tryd.underlying4
  a4 := Tryd.isAgg4
  z4 := Tryd.sizeOf4
  v4 := Tryd.zeroValue4
  t5 := Tryd.underlying5
  a5 := Tryd.isAgg5
  z5 := Tryd.sizeOf5
  v5 := Tryd.zeroValue5
  t9 := Tryd.underlying9
  a9 := Tryd.isAgg9
  z9 := Tryd.sizeOf9
  v9 := Tryd.zeroValue9
  t22 := Tryd.underlying27
  a22 := Tryd.isAgg27
  z22 := Tryd.sizeOf27
  v22 := Tryd.zeroValue27
  t23 := Tryd.underlying27
  a23 := Tryd.isAgg27
  z23 := Tryd.sizeOf27
  v23 := Tryd.zeroValue27
  t25 := Tryd.underlying3
  a25 := Tryd.isAgg3
  z25 := Tryd.sizeOf3
  v25 := Tryd.zeroValue3
  t32 := Tryd.underlying144
  a32 := Tryd.isAgg144
  z32 := Tryd.sizeOf144
  v32 := Tryd.zeroValue144
  t35 := Tryd.underlying206
  a35 := Tryd.isAgg206
  z35 := Tryd.sizeOf206
  v35 := Tryd.zeroValue206
  t36 := Tryd.underlying207
  a36 := Tryd.isAgg207
  z36 := Tryd.sizeOf207
  v36 := Tryd.zeroValue207
  t41 := Tryd.underlying211
  a41 := Tryd.isAgg211
  z41 := Tryd.sizeOf211
  v41 := Tryd.zeroValue211
  t44 := Tryd.underlying170
  a44 := Tryd.isAgg170
  z44 := Tryd.sizeOf170
  v44 := Tryd.zeroValue170
  t46 := Tryd.underlying113
  a46 := Tryd.isAgg113
  z46 := Tryd.sizeOf113
  v46 := Tryd.zeroValue113
  t53 := Tryd.underlying214
  a53 := Tryd.isAgg214
  z53 := Tryd.sizeOf214
  v53 := Tryd.zeroValue214
  t57 := Tryd.underlying218
  a57 := Tryd.isAgg218
  z57 := Tryd.sizeOf218
  v57 := Tryd.zeroValue218
  t63 := Tryd.underlying220
  a63 := Tryd.isAgg220
  z63 := Tryd.sizeOf220
  v63 := Tryd.zeroValue220
  t64 := Tryd.underlying221
  a64 := Tryd.isAgg221
  z64 := Tryd.sizeOf221
  v64 := Tryd.zeroValue221
end Go.Proofs
namespace Go.Abs
open Go.Proofs Go.Maps Go.Sort Go.Shelf Go.RowKit
def keysS (l : List (Int × List UInt8)) : List Int := (l.map (·.1)).mergeSort (fun x y => decide (x ≤ y))
/-- slices.Sort's two contracts. -/
theorem sortsL (m : Nat) : AnyZI.SortsIn Proofs.Tryd.prog Proofs.Tryd.sortedL_ren Fence.wide m :=
  ⟨fun blk off cap ss W hH hblk hsz => callsIn_wide.2 (AnyM.slices_Sort_int Proofs.Tryd.sortL blk off cap ss W hH hblk hsz),
   fun p cap W => callsIn_wide.2 (AnyM.slices_Sort_int_none Proofs.Tryd.sortL p cap W)⟩
/-- How a map's values are read: not at all. -/
def rdNo (_ : Value) : Option (DataW Unit × List MemPlace) := some (.nil, [])
theorem keys_perm {P : Program} {k : TypeId} (hk : P.underlying k = some (.int .i64)) {es : List MapEntry} {ns : List Int} (h : es.map (·.key) = ns.map (Value.int .i64)) (hr : ∀ n ∈ ns, (Lit.int .i64 n).wf = true) :
    (∀ x ∈ es, ∃ y, Go.WideElems.rd P k rdNo x = some y) ∧ (intKeys (.map ((es.map (Go.WideElems.rg P k rdNo)).foldr DataW.insert []))).Perm ns := by
  have hrd : ∀ x ∈ es, ∀ n : Int, x.key = .int .i64 n → (Lit.int .i64 n).wf = true → Go.WideElems.rd P k rdNo x = some (.int .i64 n, .nil) := fun x _ n hx hw => by
    have h1 := keyOf_int_mk hk hw
    simp only [Go.WideElems.rd, hx, h1, rdNo, Option.bind_some, Option.map_some]
  have hall : ∀ (es : List MapEntry) (ns : List Int), es.map (·.key) = ns.map (Value.int .i64) → (∀ n ∈ ns, (Lit.int .i64 n).wf = true) →
      (∀ x ∈ es, ∃ y, Go.WideElems.rd P k rdNo x = some y) ∧ (es.map (Go.WideElems.rg P k rdNo)).map (fun p => Go.intOf p.1) = ns := by
    intro es
    induction es with
    | nil => intro ns h _; cases ns with
      | nil => exact ⟨by simp, rfl⟩
      | cons n ns => simp at h
    | cons x es ih => intro ns h hr; cases ns with
      | nil => simp at h
      | cons n ns =>
        simp only [List.map_cons, List.cons.injEq] at h
        obtain ⟨h1, h2⟩ := ih ns h.2 (fun q hq => hr q (List.mem_cons_of_mem _ hq))
        have h3 : Go.WideElems.rd P k rdNo x = some (.int .i64 n, .nil) := by
          have h4 := keyOf_int_mk hk (hr n (by simp))
          simp only [Go.WideElems.rd, h.1, h4, rdNo, Option.bind_some, Option.map_some]
        refine ⟨fun y hy => ?_, ?_⟩
        · rcases List.mem_cons.1 hy with rfl | hy
          · exact ⟨_, h3⟩
          · exact h1 y hy
        · simp only [List.map_cons]
          rw [h2, Go.WideElems.rg_of h3]; rfl
  obtain ⟨h1, h2⟩ := hall es ns h hr
  refine ⟨h1, ?_⟩
  have h3 := (Go.WideShapes.sorted_perm (es.map (Go.WideElems.rg P k rdNo))).map (fun p => Go.intOf p.1)
  rw [h2] at h3
  exact h3
set_option maxRecDepth 100000 in
theorem sorted_at (X : Nat → Prop) (H : Hp) (j id : Nat) (l : List (Int × List UInt8)) (ho : H[id]? = some (some (.map (l.map oldA)))) (hb : H[j]? = some (some (.cells [.mp id] 116)))
    (hnd : (l.map (·.1)).Nodup) (hr : ∀ p ∈ l, 0 ≤ p.1 ∧ p.1 ≤ 1073741824) (hlen : l.length ≤ 1073741824) :
    ACalls (E0 X) 95 [.clo (.func 133) [] [.ptr j 0]] H (fun r H' => r = .own H.length 0 l.length ∧ H' = H ++ [some (.arr ((keysS l).map (.int .i64)) 3)]) := by
  refine ⟨⟨Proofs.Tryd.f95, Proofs.Tryd.func95, rfl, by kernel_rfl⟩, fun m w vs hok hglob hargs hsim => ?_⟩
  obtain ⟨v, r, rfl, h1, h2⟩ := relL_cons.1 hargs
  rw [relL_nil] at h2; subst h2
  simp only [Abs.Rel] at h1
  obtain ⟨us, ws, rfl, h3, h4⟩ := h1
  rw [relL_nil] at h3; subst h3
  obtain ⟨u, q, rfl, h5, h6⟩ := relL_cons.1 h4
  rw [relL_nil] at h6; subst h6
  simp only [Abs.Rel] at h5
  obtain ⟨a, rfl, h7, h8⟩ := h5
  obtain ⟨x, hx, hob⟩ := hsim.live j _ hb
  cases x with
  | dead => exact hob.elim
  | nil => exact hob.elim
  | blk bj =>
    obtain ⟨us, hbl, hus⟩ := hob
    obtain ⟨u, q, hu1, hu2, hu3⟩ := relL_cons.1 hus
    rw [relL_nil] at hu3; subst hu3
    simp only [Abs.Rel] at hu2
    obtain ⟨rr, rfl, hm1, hm2⟩ := hu2
    have ha : a = ⟨bj, 0, none⟩ := h8 bj hx
    subst ha
    obtain ⟨y, hy, hob2⟩ := hsim.live id _ ho
    cases y with
    | dead => exact hob2.elim
    | nil => exact hob2.elim
    | blk bm =>
      have hrr : rr = bm := hm2 bm hy
      subst hrr
      obtain ⟨es, clock, hmap, hborn, hbnd, hk, hv⟩ := hob2
      have hk1 : es.toList.map (·.key) = (l.map (·.1)).map (Value.int .i64) := by
        have h9 : (l.map oldA).map (·.1) = (l.map (·.1)).map (AV.int .i64) := by simp [oldA]
        rw [h9] at hk
        exact relL_ints hk
      have hu3 : Proofs.Tryd.prog.underlying 3 = some (.int .i64) := Proofs.Tryd.underlying3
      have hwf : ∀ n ∈ l.map (·.1), (Lit.int .i64 n).wf = true := fun n hn => by
        obtain ⟨p, hp, rfl⟩ := List.mem_map.1 hn
        have := hr p hp
        simp [Lit.wf, IntKind.min, IntKind.max, IntKind.bits, IntKind.signed]
        omega
      obtain ⟨hrd, hperm⟩ := keys_perm hu3 hk1 hwf
      have hsz : es.size = l.length := by
        have := congrArg List.length hk1
        simpa using this
      have hinj : ∀ a b : Int, Value.int .i64 a = .int .i64 b → a = b := fun a b h => by simpa using h
      have hfit : Go.WideElems.Fit Proofs.Tryd.prog 3 rdNo es clock := ⟨by rw [hsz]; show _ ≤ 9223372036854775807; omega, ⟨fun x hx => hborn x (by simpa using hx), hbnd, by
        rw [hk1]
        exact List.pairwise_map.2 (hnd.imp fun h e => h (hinj _ _ e))⟩, hrd⟩
      let D0 : DataW Unit := .map ((es.toList.map (Go.WideElems.rg Proofs.Tryd.prog 3 rdNo)).foldr DataW.insert [])
      have hown : w.ownsMap Proofs.Tryd.prog 3 rdNo rr es.size D0 := ⟨es, clock, hmap, hfit, Nat.le_refl _, rfl⟩
      have hDs : Maps.size D0 = l.length := by
        show (List.foldr DataW.insert [] _).length = _
        rw [Go.length_sorted]; simp [hsz]
      have hus' : us = #[.map (some rr)] := by
        apply Array.ext'
        simpa using hu1
      subst hus'
      have hseq : SeqGives Fence.wide 2 Proofs.Tryd.prog 133 #[.pointer (some ⟨bj, 0, none⟩)] encZ (fun ss => ss.Perm (intKeys D0)) (Maps.size D0) w :=
        AnyZI.keys_gives (ρ := Proofs.Tryd.keysL_ren) { Proofs.Tryd.keysL with } Fence.wide _ trivial rfl (by omega) bj rr es.size D0 w (hsim.lt (List.mem_of_getElem? hx)) (by simp [World.cell?, hbl]) hown
      have cS := AnyZI.sorted_in Proofs.Tryd.sortedL Fence.wide 5 trivial trivial trivial trivial rfl (by omega) (sortsL _) (enters_of Proofs.Tryd.func132 (by kernel_rfl) rfl) 133 #[.pointer (some ⟨bj, 0, none⟩)] trivial
        (enters_of Proofs.Tryd.func133 (by kernel_rfl) rfl) _ _ (by rw [hDs]; show _ ≤ 9223372036854775807; omega) (by rw [hDs]; omega) _ hseq
      change CallsIn _ _ Proofs.Tryd.prog 95 _ _ _ at cS
      refine ((callsIn_wide (n := 5)).1 cS).mono ?_
      rintro e w' ⟨v, ss, rfl, hS, hrow, hnil, hbelow⟩
      have hss : ss.Perm (l.map (·.1)) := hS.trans hperm
      have hms : ss.mergeSort (fun x y => decide (x ≤ y)) = keysS l := mergeSort_of_perm_i hss
      have hsl : ss.length = l.length := by have := hss.length_eq; simpa using this
      rw [hms, hsl] at hrow
      obtain ⟨m', h10, h11, h12⟩ := own_row (E := E0 X) (es := (keysS l).map (.int .i64)) hsim hbelow hrow (by rfl) (fun u hu => by
        obtain ⟨n, _, rfl⟩ := List.mem_map.1 hu; rfl) (fun cx m => by
          have : ∀ ns : List Int, Abs.RelL cx m w' (ns.map (.int .i64)) (ns.map encZ) := fun ns => by
            induction ns with
            | nil => simp [Abs.RelL]
            | cons n ns ih => exact RelL.cons (by simp [Abs.Rel, encZ]) ih
          exact this _) (noFz_map (fun _ => rfl) _)
      exact ⟨v, m', _, _, rfl, h10, h11, h12, rfl, rfl⟩
end Go.Abs
namespace Go.Abs
theorem nodup_le : ∀ (n : Nat) (l : List Nat), l.Nodup → (∀ x ∈ l, x < n) → l.length ≤ n
  | 0, l, _, h => by
    cases l with
    | nil => exact Nat.le_refl _
    | cons x l => exact absurd (h x (by simp)) (Nat.not_lt_zero _)
  | n + 1, l, hn, h => by
    by_cases hm : n ∈ l
    · have h1 := nodup_le n (l.erase n) (hn.erase n) (fun x hx => by
        have h2 := (hn.mem_erase_iff).1 hx
        have := h x h2.2
        have := h2.1
        omega)
      rw [List.length_erase_of_mem hm] at h1
      omega
    · have := nodup_le n l hn (fun x hx => by
        have := h x hx
        have : x ≠ n := fun e => hm (e ▸ hx)
        omega)
      omega
theorem Dv.Inv.len {v : Dv} (h : v.Inv) : v.old.length ≤ 1048576 := by
  have h1 := nodup_le 1048576 (v.old.map fun p => p.1.toNat) (List.pairwise_map.2 ((List.pairwise_map.1 h.nd).imp_of_mem fun {a b} ha hb hne e => hne (by
    have := h.keys a ha; have := h.keys b hb; omega))) (fun x hx => by
    obtain ⟨p, hp, rfl⟩ := List.mem_map.1 hx
    have := h.keys p hp
    have := h.load.2.2
    omega)
  simpa using h1
def lookO (l : List (Int × List UInt8)) (i : Int) : List UInt8 := ((l.find? fun p => p.1 == i).map (·.2)).getD []
theorem lookO_at : ∀ {l : List (Int × List UInt8)} {i : Int}, i ∈ l.map (·.1) → (l.map (·.1)).Nodup → ∃ j : Nat, (l.map (·.1))[j]? = some i ∧ l[j]? = some (i, lookO l i)
  | [], _, h, _ => by simp at h
  | p :: l, i, h, hn => by
    simp only [List.map_cons, List.nodup_cons] at hn
    by_cases hp : p.1 = i
    · refine ⟨0, by simp [hp], ?_⟩
      have e : lookO (p :: l) i = p.2 := by
        have hb : (p.1 == i) = true := by simpa using hp
        simp only [lookO, List.find?_cons, hb, Option.map_some, Option.getD_some]
      rw [e, ← hp]; rfl
    · simp only [List.map_cons, List.mem_cons] at h
      obtain ⟨j, h1, h2⟩ := lookO_at (h.resolve_left fun e => hp e.symm) hn.2
      refine ⟨j + 1, by simpa using h1, ?_⟩
      have e : lookO (p :: l) i = lookO l i := by
        have hb : (p.1 == i) = false := by simpa using hp
        simp only [lookO, List.find?_cons, hb]
      rw [e]; simpa using h2
/-- The bytes of sector i from n on out of old. -/
def bkN (img old : List UInt8) (i n : Nat) : List UInt8 := img.take (i * 64 + n) ++ old.drop n ++ img.drop (i * 64 + 64)
theorem bkN_len {img old : List UInt8} {i n : Nat} (h : i * 64 + 64 ≤ img.length) (ho : old.length = 64) (hn : n ≤ 64) : (bkN img old i n).length = img.length := by
  simp [bkN]; omega
def pcStep (old : List (Int × List UInt8)) (keep : List Bool) (ts : List Tr) (img : List UInt8) (k : Nat) : List UInt8 :=
  match (keysS old)[k]? with
  | some i => bkN img (lookO old i) i.toNat (keptN k keep ts).toNat
  | none => img
def pcRun (img : List UInt8) (old : List (Int × List UInt8)) (keep : List Bool) (ts : List Tr) (j : Nat) : List UInt8 := (List.range j).foldl (pcStep old keep ts) img
theorem pcRun_succ {img : List UInt8} {old : List (Int × List UInt8)} {keep : List Bool} {ts : List Tr} {j : Nat} : pcRun img old keep ts (j + 1) = pcStep old keep ts (pcRun img old keep ts j) j := by
  simp [pcRun, List.range_succ]
theorem keysS_perm (l : List (Int × List UInt8)) : (keysS l).Perm (l.map (·.1)) := List.mergeSort_perm _ _
theorem keysS_len (l : List (Int × List UInt8)) : (keysS l).length = l.length := by have := (keysS_perm l).length_eq; simpa using this
theorem keysS_at {v : Dv} (hv : v.Inv) {k : Nat} {i : Int} (h : (keysS v.old)[k]? = some i) : ∃ q : Nat, i = q ∧ q * 64 + 64 ≤ v.image.length ∧ (lookO v.old i).length = 64 ∧ ∃ j : Nat, (v.old.map (·.1))[j]? = some i ∧ v.old[j]? = some (i, lookO v.old i) := by
  have hm : i ∈ v.old.map (·.1) := (keysS_perm v.old).mem_iff.1 (List.mem_of_getElem? h)
  obtain ⟨j, h1, h2⟩ := lookO_at hm hv.nd
  have h3 := hv.keys _ (List.mem_of_getElem? h2)
  have h4 := hv.sz _ (List.mem_of_getElem? h2)
  simp only at h3 h4
  exact ⟨i.toNat, by omega, by omega, h4, j, h1, h2⟩
theorem pcRun_len {v : Dv} (hv : v.Inv) {keep : List Bool} {ts : List Tr} : ∀ j, (pcRun v.image v.old keep ts j).length = v.image.length
  | 0 => rfl
  | j + 1 => by
    have h := pcRun_len hv (keep := keep) (ts := ts) j
    rw [pcRun_succ]
    unfold pcStep
    split
    · rename_i i hi
      obtain ⟨q, rfl, hq, hl, _⟩ := keysS_at hv hi
      have := kept_bound j keep ts
      rw [bkN_len (by simpa [h] using hq) hl (by omega), h]
    · exact h
def Dv.crash (v : Dv) (keep : List Bool) (ts : List Tr) : Dv := Dv.fresh (pcRun v.image v.old keep ts v.old.length)
theorem at_at {X : Nat → Prop} (v : Dv) (i : Nat) (hl : v.image.length ≤ 1073741824) (hi : i * 64 + 64 ≤ v.image.length) (L R : Hp) (s : Nat) (hs : L.length = s) :
    ACalls (E0 X) 98 [.ptr s 0, .int .i64 (i : Int)] (L ++ devS s v ++ R) (fun r H' => r = .own (1 + s) (i * 64) 64 ∧ H' = L ++ devS s v ++ R) := by
  refine (dev_gen (fun X => at_c X v i hl hi) ⟨trivial, trivial⟩ L R s hs).mono ?_
  rintro r H' ⟨r1, h', ⟨rfl, rfl⟩, rfl, rfl⟩
  refine ⟨by simp [rnA, sh], ?_⟩
  show L ++ mapH (sh s R.length 3) (devH v) ++ R ++ [] = _
  rw [mapH_devQ, List.append_nil]
theorem spl_bk {img o : List UInt8} {i n : Nat} (h : i * 64 + 64 ≤ img.length) (ho : o.length = 64) (hn : n ≤ 64) :
    spl (img.map u8A) (i * 64 + n) (((o.drop n).map u8A).take (min (64 - n) ((o.drop n).map u8A).length)) = (bkN img o i n).map u8A := by
  have h1 : ((o.drop n).map u8A).length = 64 - n := by simp; omega
  rw [h1, Nat.min_self, List.take_of_length_le (by omega)]
  unfold spl bkN
  rw [h1]
  have h2 : i * 64 + n + (64 - n) = i * 64 + 64 := by omega
  rw [h2]
  simp only [List.map_append, List.map_take, List.map_drop]
def crH (v : Dv) (img : List UInt8) : Hp := devH v ++ devS 3 (Dv.fresh img) ++ [some (.cells [.mp 2] 116), some (.arr ((keysS v.old).map (.int .i64)) 3)]
theorem crH_eq (v : Dv) (img : List UInt8) : crH v img = devH v ++ [some (.cells [.own 4 0 img.length, .mp 5, .int .i64 0, .int .i64 (-1), .bool false] 118), some (.arr (img.map u8A) 5), some (.map []),
    some (.cells [.mp 2] 116), some (.arr ((keysS v.old).map (.int .i64)) 3)] := by
  simp [crH, devS, Dv.fresh]
theorem hok_cr (v : Dv) (img : List UInt8) : HOk 8 (crH v img) := by
  rw [crH_eq]
  intro j o ho
  match j, ho with
  | 0, ho => cases ho; exact ⟨by simp [IdsLt], by simp [IdsLt], trivial, trivial, trivial, trivial⟩
  | 1, ho => cases ho; exact idsL_map fun _ => u8A_ids
  | 2, ho => cases ho; exact ⟨ids_mono (Nat.zero_le _) (old_ids _).1, ids_mono (Nat.zero_le _) (old_ids _).2⟩
  | 3, ho => cases ho; exact ⟨by simp [IdsLt], by simp [IdsLt], trivial, trivial, trivial, trivial⟩
  | 4, ho => cases ho; exact idsL_map fun _ => u8A_ids
  | 5, ho => cases ho; exact ⟨trivial, trivial⟩
  | 6, ho => cases ho; exact ⟨by simp [IdsLt], trivial⟩
  | 7, ho => cases ho; exact idsL_map fun _ => trivial
attribute [local irreducible] AStep aops AWp Nx awM
set_option maxHeartbeats 0 in
set_option maxRecDepth 100000 in
theorem crash_c (X : Nat → Prop) (v : Dv) (hv : v.Inv) (keep : List Bool) (ts : List Tr) (hts : ts.length ≤ 1073741824) :
    ACalls (E0 X) 54 [.ptr 0 0, .sl 1 (keep.map boA), .sl 2 (ts.map trA)] (devH v) (fun r H' => r = .ptr 3 0 ∧ H'.take 6 = devH v ++ devS 3 (v.crash keep ts)) := by
  have hll := hv.load.2.2
  have hol := hv.len
  refine acalls_of Proofs.Tryd.func54 rfl Proofs.Tryd.ntmps54 (by kernel_rfl) rfl ?_
  intro hH hargs
  clear hH hargs
  repeat' (first | ((refine Qa rfl ?_); (first | refine Q0 ?_ | refine Q1 ?_ | refine Q3 rfl rfl rfl ?_ | refine Q4 rfl rfl rfl rfl rfl ?_ | refine Q6 rfl ?_ | refine QH rfl rfl rfl ?_); (refine QX rfl rfl ?_)) | refine Qa rfl ?_ | refine Qh ?_ | refine Ql ?_ | refine Qm ?_ | refine Qo rfl ?_ | refine Qq rfl ?_)
  refine st_call (fun _ => rfl) rfl ?_
  refine ACalls.mono (load_at X (devH v) _ v.image (by omega) (src_ownm' rfl rfl rfl (by simp) (by simp))) ?_
  rintro r H' (⟨-, rfl, rfl⟩ | ⟨hn, -, -⟩)
  rotate_left
  · exact absurd hv.load hn
  first | refine nx rfl rfl ?_ | refine nx0 ?_
  repeat' (first | ((refine Qa rfl ?_); (first | refine Q0 ?_ | refine Q1 ?_ | refine Q3 rfl rfl rfl ?_ | refine Q4 rfl rfl rfl rfl rfl ?_ | refine Q6 rfl ?_); (refine QX rfl rfl ?_)) | refine Qa rfl ?_ | refine Qh ?_ | refine Ql ?_ | refine Qo rfl ?_)
  refine st_call (fun _ => rfl) rfl ?_
  refine ACalls.mono (keys_at X _ 2 v.old rfl) ?_
  rintro r H' ⟨rfl, rfl⟩
  first | refine nx rfl rfl ?_ | refine nx0 ?_
  repeat' (refine Qa rfl ?_)
  refine st_call (fun _ => rfl) rfl ?_
  refine ACalls.mono (sorted_at X _ 6 2 v.old rfl rfl hv.nd (fun p hp => by have := hv.keys p hp; omega) (by omega)) ?_
  rintro r H' ⟨rfl, rfl⟩
  first | refine nx rfl rfl ?_ | refine nx0 ?_
  repeat' (first | ((refine Qa rfl ?_); (first | refine Q0 ?_ | refine Q7 rfl rfl rfl ?_); (refine QX rfl rfl ?_)) | refine Qh ?_ | refine Qn ?_)
  refine awp_loop2 (fun j : Nat => ⟨[(0, .ptr 0 0), (1, .sl 1 (keep.map boA)), (2, .sl 2 (ts.map trA)), (7, .ptr 3 0), (24, .own 7 0 v.old.length), (25, .int .i64 v.old.length), (26, .int .i64 j)], crH v (pcRun v.image v.old keep ts j)⟩)
    (fun j => j ≤ v.old.length) (fun j => v.old.length - j) 0 (Nat.zero_le _) ?_ ?_
  · refine imp_cutk 8 (by simp [devH]) (hok_cr _ _) rfl (by simp) ?_
    repeat' (first | exact fa_nil | refine fa_cons ⟨?_, ?_⟩ ?_)
    all_goals (try first | exact rfl | exact trivial | (simp [IdsLt]; done) | (simp [get_cons]; done) | (simp [get_cons, *]; done) | (refine congrArg (AV.int .i64) (wrap_eq ?_ ?_ ?_) <;> (first | omega | (simp; omega))))
  · rintro j hj
    have hpl := pcRun_len hv (keep := keep) (ts := ts) j
    have hnext := pcRun_succ (img := v.image) (old := v.old) (keep := keep) (ts := ts) (j := j)
    generalize himg : pcRun v.image v.old keep ts j = img at *
    show AWp _ _ _ _ _ ⟨[(0, .ptr 0 0), (1, .sl 1 (keep.map boA)), (2, .sl 2 (ts.map trA)), (7, .ptr 3 0), (24, .own 7 0 v.old.length), (25, .int .i64 v.old.length), (26, .int .i64 j)], crH v img⟩
    rw [crH_eq]
    repeat' (first | ((refine Qa rfl ?_); (refine Q2 rfl ?_); (refine QX rfl rfl ?_)) | refine Qh ?_ | refine Ql ?_ | refine Qo rfl ?_)
    refine awp_cond_dec rfl (fun h3 => ?_) (fun h3 => ?_)
    · have hj3 : j < v.old.length := by omega
      obtain ⟨i, hi⟩ : ∃ i, (keysS v.old)[j]? = some i := ⟨_, List.getElem?_eq_getElem (by rw [keysS_len]; exact hj3)⟩
      obtain ⟨q, rfl, hq, ho64, jj, hjj, hold⟩ := keysS_at hv hi
      obtain ⟨hb0, hb1⟩ := kept_bound j keep ts
      obtain ⟨n, hn⟩ := Int.eq_ofNat_of_zero_le hb0
      have hn64 : n ≤ 64 := by omega
      have hnx : pcRun v.image v.old keep ts (j + 1) = bkN img (lookO v.old q) q n := by rw [hnext]; simp [pcStep, hi, hn]
      generalize hoo : lookO v.old q = o at *
      have hsp := spl_bk (img := img) (o := o) (i := q) (n := n) (by omega) ho64 hn64
      have hbl : (bkN img o q n).length = img.length := bkN_len (by omega) ho64 hn64
      have hns : (v.old.map oldA).map (·.1) = (v.old.map (·.1)).map (AV.int .i64) := by simp [oldA]
      have hy : ((v.old.map oldA).map (·.2))[jj]? = some (.agg (o.map u8A)) := by simp [hold, oldA]
      repeat' (first | ((refine Qa rfl ?_); (refine Q0 ?_); (refine QX rfl rfl ?_)) | refine Qa rfl ?_ | refine Ql ?_ | refine Qm ?_ | refine Qn ?_ | refine Qo rfl ?_)
      refine st_ixo (j := j) (p := j) (rfl) (by first | omega | assumption | (simp; omega)) (by omega) rfl rfl rfl rfl rfl rfl rfl rfl ?_
      first | refine nx rfl rfl ?_ | refine nx0 ?_
      repeat' (refine Qa rfl ?_)
      refine st_load_pe rfl rfl (y := .int .i64 (q : Int)) (by simp [hi]) rfl rfl rfl ?_
      first | refine nx rfl rfl ?_ | refine nx0 ?_
      repeat' (first | ((refine Qa rfl ?_); (first | refine Q0 ?_ | refine Q1 ?_ | refine Q3 rfl rfl rfl ?_ | refine Q4 rfl rfl rfl rfl rfl ?_ | refine Q6 rfl ?_); (refine QX rfl rfl ?_)) | refine Qa rfl ?_ | refine Qh ?_ | refine Ql ?_ | refine Qo rfl ?_)
      refine st_lookup_hit rfl rfl rfl rfl rfl rfl hns hv.nd rfl hjj hy ?_
      show Nx _ (.agg (o.map u8A)) _
      refine nx0 ?_
      repeat' (first | ((refine Qa rfl ?_); (refine QJ rfl rfl ?_); (refine QX rfl rfl ?_)) | (refine Qb rfl ?_))
      apply st_store_ptr rfl rfl rfl
      · show Nat.beq (o.map u8A).length 64 = true
        simp [ho64]
      · show (o.map u8A).all oneA = true
        exact List.all_eq_true.2 (u8_oneA o)
      · rfl
      · show Nat.ble (0 + (o.map u8A).length) 64 = true
        simp [ho64]
      have hset : spl (List.replicate 64 (AV.int .u8 0)) 0 (o.map u8A) = o.map u8A := by
        unfold spl
        rw [List.drop_of_length_le (by simp [ho64])]
        simp
      show Nx _ _ (List.set _ 8 (some (.cells (spl (List.replicate 64 (AV.int .u8 0)) 0 (o.map u8A)) _)))
      rw [hset]
      refine nx0 ?_
      repeat' (first | ((refine Qa rfl ?_); (refine Q0 ?_); (refine QZ ?_)) | refine Qa rfl ?_ | refine Qh ?_ | refine Ql ?_ | refine Qo rfl ?_)
      refine st_call (fun _ => rfl) rfl ?_
      refine ACalls.mono (acalls_pure (E := E0 X) (fun X => kept_c X j keep ts hts) (by simp [IdsLtL, IdsLt]) _) ?_
      rintro r H' ⟨rfl, rfl⟩
      first | refine nx rfl rfl ?_ | refine nx0 ?_
      rw [hn]
      repeat' (first | ((refine Qa rfl ?_); (refine Q1 ?_); (refine QZ ?_)) | refine Qh ?_ | refine Qs ?_)
      refine awp_pre (imp_freezeP (id := 8) (cs := o.map u8A) rfl) ?_
      refine awp_pre (imp_cutk 8 (by simp [devH]) (hok_cr v img) (by rw [crH_eq]; rfl) (by simp) (sl' := [(0, .ptr 0 0), (1, .sl 1 (keep.map boA)), (2, .sl 2 (ts.map trA)), (7, .ptr 3 0), (9, .int .i64 (q : Int)), (10, .fp (o.map u8A)), (11, .int .i64 (n : Int)), (24, .own 7 0 v.old.length), (25, .int .i64 v.old.length), (26, .int .i64 j)]) ?_) ?_
      · repeat' (first | exact fa_nil | refine fa_cons ⟨?_, ?_⟩ ?_)
        all_goals (try first | exact rfl | exact trivial | (simp [IdsLt]; done) | (simp [get_cons]; done) | (simp [get_cons, *]; done) | (refine congrArg (AV.int .i64) (wrap_eq ?_ ?_ ?_) <;> (first | omega | (simp; omega))))
      rw [crH_eq]
      refine awp_region_any [2, 7] [0, 1, 3, 5, 6] (by exact rfl) ?_
      refine any_lin (fuel := 0) [0, 1, 3, 5, 6, 2, 4, 7] (by exact rfl) (by kernel_rfl) (by kernel_rfl) ?_
      repeat' ((apply Qe rfl rfl rfl rfl; intro H9); (refine Q0 ?_); (exact QY rfl ⟨rfl, rfl⟩))
      apply ds_soN rfl rfl rfl rfl
      · intro H9
        refine st_slice_fp (l := n) (h := 64) (n := 64) (out := (o.drop n).map u8A) (bnd_some rfl rfl) (bnd_none) (by omega) (by omega) (by simp [ho64]) (by decide) (List.all_eq_true.2 (u8_oneA o)) (by rw [List.take_of_length_le (by simp [ho64]), List.map_drop]) rfl rfl rfl rfl rfl ?_
        exact nx0 ⟨rfl, rfl⟩
      refine ds_ef rfl rfl rfl ?_
      refine st_call (fun _ => rfl) rfl ?_
      refine ACalls.mono (at_at (Dv.fresh img) q (by show img.length ≤ _; omega) (by show _ ≤ img.length; omega) (devH v) [some (.cells [.mp 2] 116), some (.arr ((keysS v.old).map (.int .i64)) 3)] 3 rfl) ?_
      rintro r H' ⟨rfl, rfl⟩
      first | refine nx rfl rfl ?_ | refine nx0 ?_
      skip
      apply ds rfl rfl rfl rfl
      · refine st_slo (l := n) (h := 64) (lo' := q * 64 + n) (n' := 64 - n) (bnd_some rfl rfl) (bnd_none) (by omega) (by first | omega | (simp; omega)) (by omega) (by omega) rfl rfl rfl rfl rfl rfl rfl ?_
        first
        | exact nx rfl rfl ⟨rfl, rfl⟩
        | exact nx0 ⟨rfl, rfl⟩
      skip
      refine ds_ef rfl rfl rfl ?_
      have hdl : ((o.drop n).map u8A).length = 64 - n := by simp [ho64]
      rw [hdl, Nat.min_self] at hsp
      refine st_cpy (out := (bkN img o q n).map u8A) (q := 64 - n) (by show _ ≤ (List.map u8A (Dv.fresh img).image).length; simp [Dv.fresh]; omega) (rfl) (oneEs_u8 _) (by rw [hdl, Nat.min_self]; exact hsp) (by rw [hdl, Nat.min_self]) rfl rfl rfl rfl rfl rfl rfl rfl ?_
      first | refine nx rfl rfl ?_ | refine nx0 ?_
      repeat' (first | ((refine Qa rfl ?_); (first | refine Q0 ?_ | refine Q2 rfl ?_); (refine QX rfl rfl ?_)) | refine Qh ?_ | refine Qk ?_ | refine Qo rfl ?_ | refine Qs ?_ | refine Qw (by kernel_rfl) ?_)
      refine ⟨j + 1, by omega, by omega, ?_⟩
      rw [hnx]
      refine imp_cutk 8 (by simp [devH]) (hok_cr _ _) (by rw [crH_eq, hbl]; rfl) (by simp) ?_
      repeat' (first | exact fa_nil | refine fa_cons ⟨?_, ?_⟩ ?_)
      all_goals (try first | exact rfl | exact trivial | (simp [IdsLt]; done) | (simp [get_cons]; done) | (simp [get_cons, *]; done) | (refine congrArg (AV.int .i64) (wrap_eq ?_ ?_ ?_) <;> (first | omega | (simp; omega))))
    · have hj3 : j = v.old.length := by omega
      subst hj3
      have e : v.crash keep ts = Dv.fresh img := by rw [← himg]; rfl
      rw [e]
      repeat' (first | ((refine Qa rfl ?_); (first | refine Q0 ?_ | refine Q1 ?_); (refine QX rfl rfl ?_)) | refine Qh ?_ | refine Ql ?_ | refine Qo rfl ?_ | refine Qr ?_ | refine Qs ?_)
      refine awp_ret ?_
      refine ⟨_, rfl, ?_, ?_⟩
      · rfl
      · rfl
end Go.Abs
namespace Go.Abs
theorem oldS_ids (n : Nat) (l : List (Int × List UInt8)) : IdsLtL n ((l.map oldA).map (·.1)) ∧ IdsLtL n ((l.map oldA).map (·.2)) :=
  ⟨ids_mono (Nat.zero_le _) (old_ids l).1, ids_mono (Nat.zero_le _) (old_ids l).2⟩
theorem inv_crash {v : Dv} (h : v.Inv) (keep : List Bool) (ts : List Tr) : (v.crash keep ts).Inv := inv_fresh (by rw [pcRun_len h]; exact h.load)
theorem mapH_new (s q : Nat) (v : Dv) : mapH (sh s q 3) (devS 3 v) = devS (3 + s + q) v := by
  simp [mapH, devS, rnO, rnL, rnA, sh, rnL_map (f := u8A) (fun _ => rfl)]
  have := rnMap_old (g := sh s q 3) v.old
  refine ⟨⟨by omega, by omega⟩, by simpa using this⟩
theorem hok_crashed (v c : Dv) : HOk 6 (devH v ++ devS 3 c) := fun j o ho => by
  match j, ho with
  | 0, ho => cases ho; exact ⟨by simp [IdsLt], by simp [IdsLt], trivial, trivial, trivial, trivial⟩
  | 1, ho => cases ho; exact idsL_map fun _ => u8A_ids
  | 2, ho => cases ho; exact oldS_ids _ _
  | 3, ho => cases ho; exact ⟨by simp [IdsLt], by simp [IdsLt], trivial, trivial, trivial, trivial⟩
  | 4, ho => cases ho; exact idsL_map fun _ => u8A_ids
  | 5, ho => cases ho; exact oldS_ids _ _
theorem crash_v (X : Nat → Prop) (v : Dv) (hv : v.Inv) (keep : List Bool) (ts : List Tr) (hts : ts.length ≤ 1073741824) :
    ACalls (E0 X) 54 [.ptr 0 0, .sl 1 (keep.map boA), .sl 2 (ts.map trA)] (devH v) (fun r H' => r = .ptr 3 0 ∧ H' = devH v ++ devS 3 (v.crash keep ts)) :=
  ACalls.imp (crash_c X v hv keep ts hts) fun r H' ⟨h1, h2⟩ => by
    subst h1
    have hl : 6 ≤ H'.length := by
      have := congrArg List.length h2
      rw [List.length_take] at this
      have e : (devH v ++ devS 3 (v.crash keep ts)).length = 6 := rfl
      omega
    exact ⟨_, _, ⟨rfl, rfl⟩, imp_cutk 6 (by simp [devH]) (hok_crashed _ _) h2 hl (fa_cons ⟨rfl, by simp [IdsLt]⟩ fa_nil)⟩
theorem crash_at (X : Nat → Prop) (v : Dv) (hv : v.Inv) (keep : List Bool) (ts : List Tr) (hts : ts.length ≤ 1073741824) (L R : Hp) (s : Nat) (hs : L.length = s) :
    ACalls (E0 X) 54 [.ptr s 0, .sl 1 (keep.map boA), .sl 2 (ts.map trA)] (L ++ devS s v ++ R) (fun r H' => r = .ptr (3 + s + R.length) 0 ∧ H' = L ++ devS s v ++ R ++ devS (3 + s + R.length) (v.crash keep ts)) := by
  refine (dev_gen (fun X => crash_v X v hv keep ts hts) ⟨idsL_map fun _ => boA_ids, idsL_map fun _ => trA_ids, trivial⟩ L R s hs).mono ?_
  rintro r H' ⟨r1, h', ⟨rfl, rfl⟩, rfl, rfl⟩
  refine ⟨by simp [rnA, sh], ?_⟩
  show L ++ mapH (sh s R.length 3) (devH v) ++ R ++ mapH (sh s R.length 3) (devS 3 _) = _
  rw [mapH_devQ, mapH_new]
end Go.Abs
namespace Go.Abs
theorem bk_get {img o : List UInt8} {i n p : Nat} (h : i * 64 + 64 ≤ img.length) (ho : o.length = 64) (hn : n ≤ 64) : (bkN img o i n)[p]? = if p / 64 = i ∧ n ≤ p % 64 then o[p % 64]? else img[p]? := by
  have hp := Nat.div_add_mod p 64
  have hm := Nat.mod_lt p (show 64 > 0 by decide)
  unfold bkN
  rcases Nat.lt_or_ge p (i * 64 + n) with h1 | h1
  · rw [if_neg (by omega), List.append_assoc, List.getElem?_append_left (by simp; omega), List.getElem?_take, if_pos h1]
  · rcases Nat.lt_or_ge p (i * 64 + 64) with h2 | h2
    · rw [if_pos ⟨by omega, by omega⟩, List.append_assoc, List.getElem?_append_right (by simp; omega), List.getElem?_append_left (by simp; omega), List.getElem?_drop]
      congr 1
      simp; omega
    · rw [if_neg (by omega), List.getElem?_append_right (by simp; omega), List.getElem?_drop]
      congr 1
      simp; omega
/-- The device's durable contents are o. -/
structure Dv.Gh (v : Dv) (o : List UInt8) : Prop where
  len : o.length = v.image.length
  sec : ∀ p ∈ v.old, p.2 = (o.drop (p.1.toNat * 64)).take 64
  same : ∀ p : Nat, ((p / 64 : Nat) : Int) ∉ v.old.map (·.1) → v.image[p]? = o[p]?
def crHit (v : Dv) (keep : List Bool) (ts : List Tr) (k p : Nat) : Prop := ∃ j, j < k ∧ (keysS v.old)[j]? = some ((p / 64 : Nat) : Int) ∧ keptN j keep ts ≤ ((p % 64 : Nat) : Int)
open Classical in
theorem pcRun_get {v : Dv} {o : List UInt8} (hv : v.Inv) (hg : v.Gh o) (keep : List Bool) (ts : List Tr) (p : Nat) : ∀ k, (pcRun v.image v.old keep ts k)[p]? = if crHit v keep ts k p then o[p]? else v.image[p]?
  | 0 => by
    rw [if_neg]
    · rfl
    · rintro ⟨j, hj, _⟩; omega
  | k + 1 => by
    have ih := pcRun_get hv hg keep ts p k
    rw [pcRun_succ]
    unfold pcStep
    split
    · rename_i i hi
      obtain ⟨q, rfl, hq, hl, jj, h1, h2⟩ := keysS_at hv hi
      have hb := kept_bound k keep ts
      obtain ⟨n, hn⟩ := Int.eq_ofNat_of_zero_le hb.1
      have hm := Nat.mod_lt p (show 64 > 0 by decide)
      rw [bk_get (by rw [pcRun_len hv]; simpa using hq) hl (by omega), ih]
      have hat := hg.sec _ (List.mem_of_getElem? h2)
      simp only [Int.toNat_natCast] at hat
      by_cases hc : p / 64 = q ∧ (keptN k keep ts).toNat ≤ p % 64
      · rw [if_pos (by simpa using hc), if_pos ⟨k, by omega, by rw [hi, hc.1], by omega⟩, hat, List.getElem?_take, if_pos hm, List.getElem?_drop]
        congr 1
        omega
      · rw [if_neg (by simpa using hc)]
        have e : crHit v keep ts (k + 1) p ↔ crHit v keep ts k p := by
          constructor
          · rintro ⟨j, h3, h4, h5⟩
            rcases Nat.lt_or_ge j k with h6 | h6
            · exact ⟨j, h6, h4, h5⟩
            · have : j = k := by omega
              subst this
              rw [hi] at h4
              simp only [Option.some.injEq] at h4
              exact absurd ⟨by omega, by omega⟩ hc
          · rintro ⟨j, h3, h4, h5⟩; exact ⟨j, by omega, h4, h5⟩
        simp only [e]
    · rename_i hi
      have e : crHit v keep ts (k + 1) p ↔ crHit v keep ts k p := by
        constructor
        · rintro ⟨j, h3, h4, h5⟩
          rcases Nat.lt_or_ge j k with h6 | h6
          · exact ⟨j, h6, h4, h5⟩
          · have : j = k := by omega
            subst this
            rw [hi] at h4; cases h4
        · rintro ⟨j, h3, h4, h5⟩; exact ⟨j, by omega, h4, h5⟩
      simp only [e]
      exact ih
open Classical in
theorem crash_get {v : Dv} {o : List UInt8} (hv : v.Inv) (hg : v.Gh o) (keep : List Bool) (ts : List Tr) (p : Nat) : (v.crash keep ts).image[p]? = if crHit v keep ts v.old.length p then o[p]? else v.image[p]? :=
  pcRun_get hv hg keep ts p _
theorem crash_len {v : Dv} (hv : v.Inv) (keep : List Bool) (ts : List Tr) : (v.crash keep ts).image.length = v.image.length := pcRun_len hv _
/-- The ghost of a device without dirty sectors. -/
theorem gh_clean {v : Dv} (h : v.old = []) : v.Gh v.image := ⟨rfl, by simp [h], fun _ _ => rfl⟩
theorem gh_put {v : Dv} {o : List UInt8} (hv : v.Inv) (h : v.Gh o) {k : Nat} {b : List UInt8} (hk : k * 64 + 64 ≤ v.image.length) (hb : b.length ≤ 64) : (v.put k b).Gh o := by
  have hother : ∀ p : Nat, p / 64 ≠ k → (v.put k b).image[p]? = v.image[p]? := fun p hp => by
    have hpd := Nat.div_add_mod p 64
    have hm := Nat.mod_lt p (show 64 > 0 by decide)
    simp only [Dv.put]
    rcases Nat.lt_or_ge p (k * 64) with h1 | h1
    · simp only [List.append_assoc]
      rw [List.getElem?_append_left (by simp; omega), List.getElem?_take, if_pos h1]
    · rw [List.getElem?_append_right (by simp; omega), List.getElem?_drop]
      congr 1
      simp; omega
  by_cases hm : (k : Int) ∈ v.old.map (·.1)
  · have e : (v.put k b).old = v.old := by simp only [Dv.put, if_pos hm]
    refine ⟨by rw [put_len hk hb]; exact h.len, by rw [e]; exact h.sec, fun p hp => ?_⟩
    rw [e] at hp
    rw [hother p (fun e => hp (e ▸ hm))]
    exact h.same p hp
  · have e : (v.put k b).old = v.old ++ [((k : Int), v.sector k)] := by simp only [Dv.put, if_neg hm]
    refine ⟨by rw [put_len hk hb]; exact h.len, ?_, fun p hp => ?_⟩
    · rw [e]
      intro p hp
      rcases List.mem_append.1 hp with hp | hp
      · exact h.sec p hp
      · simp at hp; subst hp
        simp only [Int.toNat_natCast, Dv.sector]
        apply List.ext_getElem?
        intro i
        simp only [List.getElem?_take, List.getElem?_drop]
        split
        · rename_i hi
          refine h.same _ ?_
          have : (k * 64 + i) / 64 = k := by omega
          rw [this]; exact hm
        · rfl
    · rw [e] at hp
      simp only [List.map_append, List.mem_append, not_or] at hp
      rw [hother p (fun e => hp.2 (by simp [e]))]
      exact h.same p hp.1
end Go.Abs
namespace Go.Abs
theorem crash_kn2 (X : Nat → Prop) (v : Dv) (hv : v.Inv) (keep : List Bool) (L R : Hp) (s : Nat) (hs : L.length = s) :
    ACalls (E0 X) 54 [.ptr s 0, .sl 1 (keep.map boA), .nils] (L ++ devS s v ++ R) (fun r H' => r = .ptr (3 + s + R.length) 0 ∧ H' = L ++ devS s v ++ R ++ devS (3 + s + R.length) (v.crash keep [])) :=
  ACalls.weak (crash_at X v hv keep [] (by decide) L R s hs) fun m w vs h => by
    obtain ⟨u1, r1, rfl, h1, h⟩ := relL_cons.1 h
    obtain ⟨u2, r2, rfl, h2, h⟩ := relL_cons.1 h
    obtain ⟨u3, r3, rfl, h3, h⟩ := relL_cons.1 h
    exact RelL.cons h1 (RelL.cons h2 (RelL.cons (rel_nils 2 h3) h))
theorem keptN_nt (k : Nat) (keep : List Bool) : keptN k keep [] = 64 ∨ keptN k keep [] = 0 := by
  unfold keptN
  simp only [firstFit]
  split
  · exact .inl rfl
  · exact .inr rfl
open Classical in
/-- A crash without torn sectors leaves each sector as it was written or as it was durable. -/
theorem crash_sec {v : Dv} {o : List UInt8} (hv : v.Inv) (hg : v.Gh o) (keep : List Bool) (j : Nat) :
    (((v.crash keep []).image.drop (j * 64)).take 64 = (v.image.drop (j * 64)).take 64) ∨ (((v.crash keep []).image.drop (j * 64)).take 64 = (o.drop (j * 64)).take 64) := by
  have key : ∀ i, i < 64 → (crHit v keep [] v.old.length (j * 64 + i) ↔ ∃ q, q < v.old.length ∧ (keysS v.old)[q]? = some (j : Int) ∧ keptN q keep [] = 0) := fun i hi => by
    have e1 : (j * 64 + i) / 64 = j := by omega
    have e2 : (j * 64 + i) % 64 = i := by omega
    unfold crHit
    rw [e1, e2]
    constructor
    · rintro ⟨q, h1, h2, h3⟩
      refine ⟨q, h1, h2, ?_⟩
      rcases keptN_nt q keep with h | h <;> omega
    · rintro ⟨q, h1, h2, h3⟩
      exact ⟨q, h1, h2, by omega⟩
  by_cases hh : ∃ q, q < v.old.length ∧ (keysS v.old)[q]? = some (j : Int) ∧ keptN q keep [] = 0
  · right
    apply List.ext_getElem?
    intro i
    rw [List.getElem?_take, List.getElem?_take]
    by_cases hi : i < 64
    · rw [if_pos hi, if_pos hi, List.getElem?_drop, List.getElem?_drop, crash_get hv hg, if_pos ((key i hi).2 hh)]
    · rw [if_neg hi, if_neg hi]
  · left
    apply List.ext_getElem?
    intro i
    rw [List.getElem?_take, List.getElem?_take]
    by_cases hi : i < 64
    · rw [if_pos hi, if_pos hi, List.getElem?_drop, List.getElem?_drop, crash_get hv hg, if_neg fun x => hh ((key i hi).1 x)]
    · rw [if_neg hi, if_neg hi]
/-- What a crash leaves of a region: each frame that is not durable is there or not. -/
structure RgC (img : List UInt8) (L F seq : Nat) (s : List UInt8) (t0 t : Nat) : Prop where
  len : img.length = L
  tle : t * 59 ≤ s.length
  le0 : t0 ≤ t
  old : ∀ i, i < t0 → (F + 1 + i) * 64 + 64 ≤ L → (img.drop ((F + 1 + i) * 64)).take 64 = frN F seq s i
  mid : ∀ i, (F + 1 + i) * 64 + 64 ≤ L → (i < t ∧ (img.drop ((F + 1 + i) * 64)).take 64 = frN F seq s i) ∨ (img.drop ((F + 1 + i) * 64)).take 64 = List.replicate 64 0
theorem rgI_at {img : List UInt8} {L : Nat} {h : Hd} {F seq t : Nat} {s : List UInt8} (g : RgI img L h F seq s t) {i : Nat} (hL : (F + 1 + i) * 64 + 64 ≤ L) : (img.drop ((F + 1 + i) * 64)).take 64 = if i < t then frN F seq s i else List.replicate 64 0 := by
  rw [g.sec _ hL, if_neg (by omega)]
  by_cases hi : i < t
  · rw [if_pos (by omega), if_pos hi, show F + 1 + i - F - 1 = i by omega]
  · rw [if_neg (by omega), if_neg hi]
theorem rgC_of {v : Dv} {o : List UInt8} {L : Nat} {h : Hd} {F seq t t0 : Nat} {s : List UInt8} (hv : Lv L v) (hg : v.Gh o) (g : RgI v.image L h F seq s t) (g0 : RgI o L h F seq s t0) (ht : t0 ≤ t) (keep : List Bool) : RgC (v.crash keep []).image L F seq s t0 t where
  len := by rw [crash_len hv.inv]; exact hv.len
  tle := g.tle
  le0 := ht
  old := fun i hi hL => by
    rcases crash_sec hv.inv hg keep (F + 1 + i) with e | e
    · rw [e, rgI_at g hL, if_pos (by omega)]
    · rw [e, rgI_at g0 hL, if_pos hi]
  mid := fun i hL => by
    rcases crash_sec hv.inv hg keep (F + 1 + i) with e | e
    · rw [e, rgI_at g hL]
      by_cases hi : i < t
      · exact .inl ⟨hi, if_pos hi⟩
      · exact .inr (if_neg hi)
    · rw [e, rgI_at g0 hL]
      by_cases hi : i < t0
      · exact .inl ⟨by omega, if_pos hi⟩
      · exact .inr (if_neg hi)
theorem strR_gap {img : List UInt8} {L F seq t0 t : Nat} {s : List UInt8} (g : RgC img L F seq s t0 t) : ∀ m i, i ≤ t → t ≤ i + m → (F + 1 + i + m) * 64 ≤ L → ∃ j, i ≤ j ∧ t0 ≤ j ∧ j ≤ t ∧ strR img seq m (F + 1 + i) = (s.drop (i * 59)).take ((j - i) * 59)
  | 0, i, h1, h2, _ => by
    have := g.le0
    refine ⟨i, Nat.le_refl _, by omega, h1, ?_⟩
    rw [Nat.sub_self, Nat.zero_mul, List.take_zero]
    rfl
  | m + 1, i, h1, h2, hL => by
    have e2 : strR img seq (m + 1) (F + 1 + i) = match decF 2 seq (F + 1 + i) (secB img ((F + 1 + i : Nat) : Int)) with
        | none => []
        | some p => p ++ strR img seq m (F + 1 + i + 1) := rfl
    have htle := g.tle
    have hin : (F + 1 + i) * 64 + 64 ≤ L := by omega
    rw [e2, secB_in (by rw [g.len]; exact hin)]
    rcases g.mid i hin with ⟨hi, e⟩ | e
    · rw [e, frN_dec (by omega)]
      simp only
      obtain ⟨j, j1, j2, j3, j4⟩ := strR_gap g m (i + 1) (by omega) (by omega) (by omega)
      refine ⟨j, by omega, j2, j3, ?_⟩
      rw [show F + 1 + i + 1 = F + 1 + (i + 1) by omega, j4, show (j - i) * 59 = ((j - (i + 1)) + 1) * 59 by omega]
      exact take_more s i (j - (i + 1))
    · have hi0 : t0 ≤ i := by
        rcases Nat.lt_or_ge i t0 with h | h
        · exfalso
          have h3 := g.old i h hin
          rw [e] at h3
          have h4 := frN_dec (F := F) (seq := seq) (t := i) (s := s) (by have := g.le0; omega)
          rw [← h3, decF_zero (by decide)] at h4
          cases h4
        · exact h
      refine ⟨i, Nat.le_refl _, hi0, h1, ?_⟩
      rw [e, decF_zero (by decide), Nat.sub_self, Nat.zero_mul, List.take_zero]
/-- What is kept between the calls of ScanPrefix: besides, what is durable. -/
structure PX (L : Nat) (h : Hd) (l : La) (F seq : Nat) (v : Dv) (s : List UInt8) (t : Nat) (ls : List (Nat × Rec)) (sure : Nat) : Prop where
  pi : PI L h l F seq v s t ls
  gh : ∃ o t0, v.Gh o ∧ RgI o L h F seq s t0 ∧ t0 ≤ t ∧ ∀ (i : Nat) (q : Nat × Rec), i < sure → ls[i]? = some q → q.1 + lenR q.2 ≤ t0 * 59
  sl : sure ≤ ls.length
theorem gh_df {L : Nat} {v : Dv} {o : List UInt8} (hv : Lv L v) (hg : v.Gh o) {F seq : Nat} {s : List UInt8} {t : Nat} : ∀ n, (F + 1 + t + n) * 64 ≤ L → (dfN v F seq s t n).Gh o := by
  intro n
  induction n with
  | zero => exact fun _ => hg
  | succ n ih =>
    intro h
    have h1 := ih (by omega)
    have h2 := hv.df (F := F) (seq := seq) (s := s) (t := t) n (by omega)
    clear ih
    have hl : (frN F seq s (t + n)).length = 64 := frN_len
    have e : dfN v F seq s t (n + 1) = (dfN v F seq s t n).put (F + 1 + t + n) (frN F seq s (t + n)) := rfl
    rw [e]
    exact gh_put h2.inv h1 (by rw [h2.len]; omega) (by omega)
theorem PX.app {L : Nat} {h : Hd} {l : La} {F seq : Nat} {v : Dv} {s : List UInt8} {t : Nat} {ls : List (Nat × Rec)} {sure : Nat} (w : PX L h l F seq v s t ls sure) {r : Rec} (hc : chkR l.ver r = 0) (hl : (s.length : Int) + (lenR r : Int) ≤ (l.rs - 1) * 59) {n : Nat} (hn : t + n = (s ++ encR l.ver seq s.length r).length / 59) (hFL : (F + 1 + (s ++ encR l.ver seq s.length r).length / 59) * 64 ≤ L) :
    PX L h l F seq (dfN v F seq (s ++ encR l.ver seq s.length r) t n) (s ++ encR l.ver seq s.length r) (t + n) (ls ++ [(s.length, r)]) sure where
  pi := w.pi.app hc hl hn hFL
  gh := by
    obtain ⟨o, t0, h1, h2, h3, h4⟩ := w.gh
    refine ⟨o, t0, gh_df w.pi.lv h1 n (by omega), h2.more _, by omega, fun i q hi hq => ?_⟩
    have := w.sl
    rw [List.getElem?_append_left (by omega)] at hq
    exact h4 i q hi hq
  sl := by have := w.sl; rw [List.length_append]; omega
theorem PX.sync {L : Nat} {h : Hd} {l : La} {F seq : Nat} {v : Dv} {s : List UInt8} {t : Nat} {ls : List (Nat × Rec)} {sure : Nat} (w : PX L h l F seq v s t ls sure) {n : Nat} (hn : t + n = (padS s).length / 59) (hFL : (F + 1 + (padS s).length / 59) * 64 ≤ L) :
    PX L h l F seq { dfN v F seq (padS s) t n with old := [] } (padS s) (t + n) ls ls.length where
  pi := w.pi.sync hn hFL
  gh := by
    have h1 := w.pi.sync hn hFL
    refine ⟨_, t + n, gh_clean rfl, h1.rg, Nat.le_refl _, fun i q _ hq => ?_⟩
    have h2 := w.pi.st.mem q (List.mem_of_getElem? hq)
    have h3 : s.length ≤ (padS s).length := by simp [Go.Abs.padS]
    have h4 := padS_len s
    omega
  sl := Nat.le_refl _
theorem PX.crash {L : Nat} {h : Hd} {l : La} {F seq : Nat} {v : Dv} {s : List UInt8} {t : Nat} {ls : List (Nat × Rec)} {sure : Nat} (w : PX L h l F seq v s t ls sure) {R : Nat} (hR : l.rs = (R : Int)) (hF : (F + R) * 64 ≤ L) (h2 : 2 ≤ R) (keep : List Bool) :
    ∃ k, k ≤ ls.length ∧ sure ≤ k ∧ recs l.ver seq (strF (v.crash keep []) seq (l.rs.toNat - 1) (F + 1)) = ls.take k := by
  obtain ⟨o, t0, g1, g2, g3, g4⟩ := w.gh
  have hc := w.pi.cap
  have ht := w.pi.tt
  have hlc : Lv L (v.crash keep []) := ⟨inv_crash w.pi.lv.inv _ _, rfl, rfl, by rw [crash_len w.pi.lv.inv]; exact w.pi.lv.len⟩
  have gc := rgC_of w.pi.lv g1 w.pi.rg g2 g3 keep
  obtain ⟨j, j1, j2, j3, j4⟩ := strR_gap gc (R - 1) 0 (Nat.zero_le _) (by omega) (by omega)
  obtain ⟨k, k1, k2, k3⟩ := w.pi.st.cut (j * 59) (by omega) (by omega)
  refine ⟨k, k1, ?_, ?_⟩
  · rcases Nat.lt_or_ge k sure with hlt | hge
    · exfalso
      have h9 := w.sl
      obtain ⟨q, hq⟩ : ∃ q, ls[k]? = some q := ⟨_, List.getElem?_eq_getElem (by omega)⟩
      have h5 := g4 k q hlt hq
      have h6 := k3 k q hq (by omega)
      omega
    · exact hge
  · rw [strF_strR hlc, show F + 1 = F + 1 + 0 from rfl, show l.rs.toNat = R by omega, j4, Nat.zero_mul, List.drop_zero, Nat.sub_zero]
    exact k2
end Go.Abs
