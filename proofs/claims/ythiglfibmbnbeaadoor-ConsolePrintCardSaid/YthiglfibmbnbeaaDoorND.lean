/- console.read: a reader that returns, or panics. Joined texts, each with what its own name promises; no condition beyond those stated. -/
import Derived.Test.YthiglfibmbnbeaaDoorNC
import Derived.Test.YthiglfibmbnbeaaDoorMD
import Derived.Lib.AppendIntMem
namespace Go.Abs
theorem boxed {E : Env} {m : Mu} {w : World} {H : Hp} {id : Nat} {cs : List AV} {e : TypeId} {u : Value} (hs : E.Sim m w H) (ho : H[id]? = some (some (.cells cs e))) (hu : E.Rel m w (.ptr id 0) u) :
    ∃ b us, m[id]? = some (.blk b) ∧ u = .pointer (some ⟨b, 0, none⟩) ∧ w.heap[b]? = some (.cells us e (0, 0)) ∧ E.RelL m w cs us.toList := by
  obtain ⟨x, h1, h2⟩ := hs.live id _ ho
  cases x with
  | dead => exact h2.elim
  | nil => exact h2.elim
  | blk b =>
    obtain ⟨us, h3, h4⟩ := h2
    simp only [Env.Rel, Abs.Rel] at hu
    obtain ⟨a, h5, h6, h7⟩ := hu
    rw [h7 b h1] at h5
    exact ⟨b, us, h1, h5, h3, h4⟩
theorem idle_c {w : World} {b : Nat} : CallsD Proofs.Tryd.prog 28 #[.pointer (some ⟨b, 0, none⟩)] .returning w fun e u' w' => e = .returned (.tuple #[]) ∧ u' = .returning ∧ w' = w := by
  refine callsD_of_wpS Proofs.Tryd.func28 rfl fun c₀ cs hu => ?_
  apply wpS_seq
  apply wpS_region
  simp [wpOpsS, go_sem, recoverD, hu, Proofs.Tryd.ntmps28, Exit.thenS]
  apply wpS_seq
  apply wpS_region
  simp [wpOpsS, go_sem, Exit.thenS]
  refine wpS_cond (t := false) (by simp [Act.eval, Array.replicate]) ?_
  simp only [Bool.false_eq_true, if_false]
  refine wpS_of_wp (wp_skip ?_)
  cases c₀
  simp_all [bodyPostS, results, Proofs.Tryd.f28]
theorem caught_c {w : World} {b : Nat} {t : TypeId} {pv : Value} (hc : w.cell? ⟨b, 0, none⟩ = some (.bool false)) (hz : w.frozen? ⟨b, 0, none⟩ = false) (hsame : w.setCell ⟨b, 0, none⟩ (.bool false) = w) :
    CallsD Proofs.Tryd.prog 28 #[.pointer (some ⟨b, 0, none⟩)] (.panicking [{ v := .iface t pv, recovered := false }]) w fun e u' w' =>
      e = .returned (.tuple #[]) ∧ u' = .panicking [{ v := .iface t pv, recovered := true }] ∧ w' = w := by
  refine callsD_of_wpS Proofs.Tryd.func28 rfl fun c₀ cs hu => ?_
  apply wpS_seq
  apply wpS_region
  simp [wpOpsS, go_sem, recoverD, hu, Proofs.Tryd.ntmps28, Exit.thenS]
  apply wpS_seq
  apply wpS_region
  simp [wpOpsS, go_sem, Exit.thenS]
  refine wpS_cond (t := true) (by simp [Act.eval, Array.replicate]) ?_
  simp only [if_true]
  apply wpS_region
  simp [wpOpsS, go_sem, hc, hz, hsame, bodyPostS, results, Proofs.Tryd.f28]
end Go.Abs
namespace Go.Abs
attribute [local irreducible] AStep aops AWp Nx awM APanic
theorem srel0 {E : Env} {N : Nat} {m : Mu} {w : World} {H : Hp} {args : List AV} {vs : List Value} (hok : E.Ok) (hglob : Glob E m w) (hargs : E.RelL m w args vs) (hsim : E.Sim m w H) (hle : args.length ≤ N) :
    SRel E N m w ⟨slots 0 args, H⟩ { tmps := vs.toArray ++ Array.replicate (N - vs.toArray.size) undef, defers := [] } := by
  have hvl := hargs.length
  refine ⟨hok, fun k => ?_, ?_, rfl, hsim, hglob⟩
  · show Abs.Rel E.cx m w (get (slots 0 args) k) _
    rw [get_slots]
    simp only [Nat.zero_le, if_true, Nat.sub_zero]
    cases hk : args[k]? with
    | none => simp [Abs.Rel]
    | some x =>
      obtain ⟨u, h1, h2⟩ := hargs.get k hk
      have hlt : k < vs.length := (List.getElem?_eq_some_iff.1 h1).1
      have : (vs.toArray ++ Array.replicate (N - vs.toArray.size) undef).getD k undef = u := by
        rw [Array.getD_eq_getD_getElem?, Array.getElem?_append_left (by simpa using hlt)]
        simp [h1]
      show Abs.Rel E.cx m w x ((vs.toArray ++ Array.replicate (N - vs.toArray.size) undef).getD k undef)
      rw [this]
      exact h2
  · simp; omega
theorem run_clo {E : Env} {m : Mu} {w : World} {a : Act} {x : Operand} {k : FuncId} {cap : List AV} {d : Option Tmp} {tys : Array TypeId} {ty : TypeId} {pos : String} {after : Array Edge} {g : Option (Nat × Bool)} (hc : Callable E k) (hx : E.Rel m w (.clo (.func k) [] cap) (a.eval x)) :
    ∃ vs, E.RelL m w cap vs ∧ (execOp a.eval ⟨d, .call ⟨.value x, #[], tys⟩, ty, pos, after, g⟩).run E.P w = .ok (.enter k vs.toArray) w := by
  obtain ⟨fn, hfn, hbody, hname⟩ := hc
  simp only [Env.Rel, Abs.Rel] at hx
  obtain ⟨us, vs, h1, h2, h3⟩ := hx
  rw [relL_nil] at h2
  subst h2
  refine ⟨vs, h3, ?_⟩
  simp only [execOp, resolve, h1, Deferred.ofValue, Sem.run_bind, Sem.run_pure, Result.andThen_ok, invoke, callFunc, run_program, hfn, hname, hbody, Bool.false_eq_true, if_false]
  simp
set_option maxHeartbeats 0 in
theorem read_core (X : Nat → Prop) (f : FuncId) (cap : List AV) (H H2 : Hp) (B : Bool) (hlen : H2.length = H.length) (hcl : Callable (E0 X) f)
    (hcall : ∀ (m : Mu) (w : World) (vs : List Value), (E0 X).Ok → Glob (E0 X) m w → (E0 X).RelL m w cap vs → (E0 X).Sim m w (H ++ [some (.cells [.bool false] 4)]) →
      Calls (E0 X).P f vs.toArray w fun e w' => ∃ m' rest, Ext m w m' w' ∧ (E0 X).Sim m' w' (H2 ++ [some (.cells [.bool false] 4)] ++ rest) ∧ ((B = true ∧ ∃ v, e = .returned v) ∨ (B = false ∧ ∃ ch, e = .panicked ch ∧ OneCh ch))) :
    ACalls (E0 X) 16 [.clo (.func f) [] cap] H (fun r H' => r = .bool B ∧ ∃ rest, H' = H2 ++ rest) := by
  refine ⟨⟨Proofs.Tryd.f16, Proofs.Tryd.func16, rfl, by kernel_rfl⟩, fun m w vs hok hglob hargs hsim => ?_⟩
  refine calls_of_wp_defers Proofs.Tryd.func16 rfl ?_
  have hs0 := srel0 (N := 6) hok hglob hargs hsim (by simp)
  refine wp_seq ?_
  refine wp_region_lit ?_
  refine wpList_D (N := 6) (K := fun s => s = ⟨(2, .ptr H.length 0) :: slots 0 [.clo (.func f) [] cap], H ++ [some (.cells [.bool false] 4)]⟩) [] [_] _ m w m w _ rfl (Ext.refl m w) hs0 ?_ ?_
  · refine aops_step rfl (st_alloc rfl rfl ?_)
    exact aops_nil rfl
  rintro m1 w1 s1 a1 he1 hs1 hd1 rfl
  refine wpList_nil ?_
  refine wp_seq ?_
  refine wp_region_lit ?_
  refine wpList_D (N := 6) (K := fun s => s = ⟨(3, .clo (.func 28) [] [.ptr H.length 0]) :: (2, .ptr H.length 0) :: slots 0 [.clo (.func f) [] cap], H ++ [some (.cells [.bool false] 4)]⟩) [_] [_] _ m w m1 w1 _ rfl he1 hs1 ?_ ?_
  · refine aops_step rfl (st_makeFunc (captured := [.tmp 2]) ?_)
    exact aops_nil rfl
  rintro m2 w2 s2 a2 he2 hs2 hd2 rfl
  have hd0 : a2.defers = [] := hd2.trans hd1
  have hlt : H.length < (H ++ [some (AO.cells [.bool false] 4)]).length := by simp
  have hs3 := hs2.slots 3
  have e3 : (E0 X).Rel m2 w2 (.clo (.func 28) [] [.ptr H.length 0]) (a2.tmps.getD 3 undef) := hs3
  simp only [Env.Rel, Abs.Rel] at e3
  obtain ⟨us, cs, h1, h2, h3⟩ := e3
  rw [relL_nil] at h2
  subst h2
  obtain ⟨u, r, rfl, h4, h5⟩ := relL_cons.1 h3
  rw [relL_nil] at h5
  subst h5
  have hobj : (H ++ [some (AO.cells [.bool false] 4)])[H.length]? = some (some (.cells [.bool false] 4)) := by simp
  obtain ⟨b, us0, hmb, rfl, hb0, hb1⟩ := boxed hs2.sim hobj h4
  unfold wpList
  rw [if_pos (by rfl)]
  left
  have hdef : ∀ (d : Option Tmp) ty pos after g, (execOp a2.eval ⟨d, .defer ⟨.value (.tmp 3), #[], #[]⟩, ty, pos, after, g⟩).run (E0 X).P w2 = .ok (.defer { target := .fn (.func 28) #[.pointer (some ⟨b, 0, none⟩)], args := #[] }) w2 := fun d ty pos after g => by
    have e : a2.eval (.tmp 3) = .func (.func 28) #[] #[.pointer (some ⟨b, 0, none⟩)] := h1
    simp [execOp, resolve, e, Deferred.ofValue]
  unfold Oper.wp
  rw [hdef, Oper.upon_defer]
  refine wpList_nil ?_
  simp only [Act.put, hd0]
  refine wp_seq ?_
  refine wp_region_lit ?_
  generalize ha3 : ({ tmps := a2.tmps, defers := [{ target := .fn (.func 28) #[.pointer (some ⟨b, 0, none⟩)], args := #[] }] } : Act) = a3
  have ht3 : a3.tmps = a2.tmps := by rw [← ha3]
  have hd3 : a3.defers = [{ target := .fn (.func 28) #[.pointer (some ⟨b, 0, none⟩)], args := #[] }] := by rw [← ha3]
  have hs3' : SRel (E0 X) 6 m2 w2 ⟨(3, .clo (.func 28) [] [.ptr H.length 0]) :: (2, .ptr H.length 0) :: slots 0 [.clo (.func f) [] cap], H ++ [some (.cells [.bool false] 4)]⟩ { tmps := a3.tmps, defers := [] } := by rw [ht3]; exact hs2
  refine wpList_D (N := 6) (K := fun s => s = ⟨(4, .clo (.func f) [] cap) :: (3, .clo (.func 28) [] [.ptr H.length 0]) :: (2, .ptr H.length 0) :: slots 0 [.clo (.func f) [] cap], H ++ [some (.cells [.bool false] 4)]⟩) [_] [_] _ m2 w2 m2 w2 _ rfl (Ext.refl m2 w2) hs3' ?_ ?_
  · refine aops_step rfl (st_move ?_)
    exact aops_nil rfl
  rintro m4 w4 s4 a4 he4 hs4 hd4 rfl
  have hx4 : (E0 X).Rel m4 w4 (.clo (.func f) [] cap) (a4.eval (.tmp 4)) := hs4.slots 4
  obtain ⟨vs4, hv4, hrun4⟩ := run_clo (d := some 5) (tys := #[]) (ty := 0) (pos := "console.go:136") (after := #[{ on := 0, ground := Ground.data }]) (g := none) hcl hx4
  unfold wpList
  rw [if_pos (by rfl)]
  left
  unfold Oper.wp
  rw [hrun4, Oper.upon_enter]
  refine (hcall m4 w4 vs4 hok (fun g => hs4.glob g) hv4 hs4.sim).mono ?_
  rintro e w5 ⟨m5, rest, he5, hs5, hB⟩
  have hobj5 : (H2 ++ [some (AO.cells [.bool false] 4)] ++ rest)[H.length]? = some (some (.cells [.bool false] 4)) := by
    rw [List.append_assoc, ← hlen]; simp
  have hptr4 : (E0 X).Rel m4 w4 (.ptr H.length 0) (a4.tmps.getD 2 undef) := hs4.slots 2
  obtain ⟨b', us5, hmb5, hu5, hb5, hr5⟩ := boxed hs5 hobj5 (Rel.ext he5 _ hptr4)
  have hglob5 : Glob (E0 X) m5 w5 := fun g => (hs4.glob g).ext he5
  have hp2 : (E0 X).Rel m5 w5 (.ptr H.length 0) (.pointer (some ⟨b, 0, none⟩)) := Rel.ext (he4.trans he5) _ h4
  obtain ⟨b2, us6, hmb6, hu6, hb6, hr6⟩ := boxed hs5 hobj5 hp2
  rw [hmb5] at hmb6
  cases hmb6
  simp only [Value.pointer.injEq, Option.some.injEq, Addr.mk.injEq, and_true] at hu6
  subst hu6
  have hdl : a4.defers = [{ target := .fn (.func 28) #[.pointer (some ⟨b, 0, none⟩)], args := #[] }] := hd4.trans hd3
  have hinv : ∀ w, (invoke (.fn (.func 28) #[.pointer (some ⟨b, 0, none⟩)]) #[]).run (E0 X).P w = .ok (.enter 28 #[.pointer (some ⟨b, 0, none⟩)]) w := fun w => by
    simp [invoke, callFunc, run_program, Proofs.Tryd.func28, E0, Proofs.Tryd.f28]
  have fin : ∀ (B : Bool) (m6 : Mu) (w6 : World) (s6 : St) (a6 : Act), Ext m w m6 w6 → SRel (E0 X) 6 m6 w6 s6 { tmps := a6.tmps, defers := [] } → get s6.sl 2 = .ptr H.length 0 → s6.hp = H2 ++ [some (.cells [.bool B] 4)] ++ rest →
      Leaves (E0 X).P Proofs.Tryd.f16 a6.tmps (fun e w' => ∃ v m' r H', e = Ending.returned v ∧ Ext m w m' w' ∧ (E0 X).Rel m' w' r v ∧ (E0 X).Sim m' w' H' ∧ (fun r H' => r = AV.bool B ∧ ∃ rest, H' = H2 ++ rest) r H') [] .returning w6 := by
    intro B m6 w6 s6 a6 he6 hs6 hg6 hh6
    have hob : s6.hp[H.length]? = some (some (.cells [.bool B] 4)) := by
      rw [hh6, List.append_assoc, ← hlen]; simp
    have hres : resL (E0 X) s6 (Proofs.Tryd.f16).results.toList = some [.bool B] := by
      show resL (E0 X) s6 [.cell 2 4] = _
      simp only [resL, resV]
      rw [if_pos (by rfl), hg6]
      simp only [cellsAt, hob]
      rfl
    obtain ⟨vs, h7, h8⟩ := results_run hs6 _ hres
    obtain ⟨v, r, rfl, h9, h10⟩ := relL_cons.1 h8
    rw [relL_nil] at h10
    subst h10
    refine ⟨v, ?_, v, m6, .bool B, s6.hp, rfl, he6, h9, hs6.sim, rfl, _, by rw [hh6, List.append_assoc]⟩
    rw [results_eq, Array.mapM_eq_mapM_toList]
    simp only [Sem.run_bind, Sem.run_map, h7, Result.andThen_ok, Sem.run_pure]
    simp
  have hput : SRel (E0 X) 6 m5 w5 ⟨slots 0 [.any, .any, .ptr H.length 0], H2 ++ [some (.cells [.bool false] 4)] ++ rest⟩ { tmps := a4.tmps, defers := [] } := by
    refine ⟨hok, fun k => ?_, hs4.size, rfl, hs5, hglob5⟩
    match k with
    | 0 => simp [slots, get, Env.Rel, Abs.Rel]
    | 1 => simp [slots, get, Env.Rel, Abs.Rel]
    | 2 => exact Rel.ext he5 _ hptr4
    | k + 3 =>
      have e : get (slots 0 [AV.any, AV.any, AV.ptr H.length 0]) (k + 3) = .any := by
        have h0 : Nat.beq 0 (k + 3) = false := rfl
        have h1 : Nat.beq 1 (k + 3) = false := rfl
        have h2 : Nat.beq 2 (k + 3) = false := rfl
        simp [slots, get, h0, h1, h2]
      rw [e]
      simp [Env.Rel, Abs.Rel]
  rcases hB with ⟨rfl, v, rfl⟩ | ⟨rfl, ch, rfl, t, pv, rfl⟩
  · show wpList (E0 X).P _ _ [] (a4.put (some 5) v) w5
    refine wpList_nil ?_
    generalize ha5 : a4.put (some 5) v = a5
    have hd5 : a5.defers = [{ target := .fn (.func 28) #[.pointer (some ⟨b, 0, none⟩)], args := #[] }] := by rw [← ha5]; exact hdl
    have hs5' : SRel (E0 X) 6 m5 w5 ⟨(5, .any) :: slots 0 [.any, .any, .ptr H.length 0], H2 ++ [some (.cells [.bool false] 4)] ++ rest⟩ { tmps := a5.tmps, defers := [] } := by
      rw [← ha5, put_clr]
      exact hput.put (d := some 5) (Ext.refl m5 w5) (fun k hk => by cases hk; decide) (r := .any) (by simp [Env.Rel, Abs.Rel]) hs5
    refine wp_seq ?_
    refine wp_region_lit ?_
    refine wpList_D (N := 6) (K := fun s => s = ⟨(5, .any) :: slots 0 [.any, .any, .ptr H.length 0], H2 ++ [some (.cells [.bool true] 4)] ++ rest⟩) [] [_] _ m5 w5 m5 w5 _ rfl (Ext.refl m5 w5) hs5' ?_ ?_
    · refine aops_step rfl (st_store_ptr rfl rfl hobj5 rfl rfl rfl rfl ?_)
      refine aops_nil ?_
      have e : (H2 ++ [some (AO.cells [.bool false] 4)] ++ rest).set H.length (some (.cells [.bool true] 4)) = H2 ++ [some (.cells [.bool true] 4)] ++ rest := by
        rw [← hlen, List.append_assoc, List.append_assoc, List.set_append_right _ _ (Nat.le_refl _), Nat.sub_self]; rfl
      exact congrArg (St.mk _) e
    rintro m6 w6 s6 a6 he6 hs6 hd6 rfl
    refine wpList_nil ?_
    refine wp_ret ?_
    show Leaves (E0 X).P _ a6.tmps _ a6.defers .returning w6
    rw [hd6, hd5]
    refine leaves_cons (f := 28) (args := #[.pointer (some ⟨b, 0, none⟩)]) (by simp) (hinv _) ?_
    refine (idle_c (w := w6) (b := b)).mono ?_
    rintro e u' w'' ⟨rfl, rfl, rfl⟩
    exact fin true m6 w'' _ a6 (((he2.trans he4).trans he5).trans he6) hs6 rfl rfl
  · show Leaves (E0 X).P _ a4.tmps _ a4.defers (.panicking [{ v := .iface t pv, recovered := false }]) w5
    rw [hdl]
    have hus : us5 = #[.bool false] := by
      obtain ⟨u, r, e1, e2, e3⟩ := relL_cons.1 hr5
      rw [relL_nil] at e3
      subst e3
      have := rel_bool e2
      subst this
      exact Array.toList_inj.1 e1
    subst hus
    refine leaves_cons (f := 28) (args := #[.pointer (some ⟨b, 0, none⟩)]) (by simp) (hinv _) ?_
    refine (caught_c (w := w5) (b := b) ?_ ?_ (setCell_same hb5 rfl)).mono ?_
    · simp [World.cell?, hb5]
    · simp [World.frozen?, hb5]
    rintro e u' w'' ⟨rfl, rfl, rfl⟩
    exact fin false m5 w'' _ a4 ((he2.trans he4).trans he5) hput rfl rfl
end Go.Abs
namespace Go.Abs
attribute [local irreducible] AStep aops AWp Nx awM APanic
theorem cmd_yes (X : Nat → Prop) (w : List UInt8) (l : List (List UInt8)) (o : Opv) (hl : l.length ≤ 100000) (hs : ∀ s ∈ l, s.length ≤ 1073741824) (h : cmdP w l = some o) :
    ACalls (E0 X) 18 [.sl 1 ((w :: l).map strA)] [] (fun r H' => r = opS o ∧ H' = []) := by
  refine ACalls.cut0 (ACalls.wkR ((cmd_ends X w l hl hs).calls (by rw [h]; simp)) ?_) (opC_ids o)
  rintro r H' ⟨o', h1, h2⟩
  rw [h] at h1
  cases h1
  exact ⟨_, rfl, h2⟩
theorem cmd_noP (X : Nat → Prop) (w : List UInt8) (l : List (List UInt8)) (hl : l.length ≤ 100000) (hs : ∀ s ∈ l, s.length ≤ 1073741824) (h : cmdP w l = none) (H : Hp) :
    APanics (E0 X) 18 [.sl 1 ((w :: l).map strA)] H (fun H' => H' = H) := by
  refine apanics_pure (E := E0 X) (fun Y => ((cmd_ends Y w l hl hs).panics ?_)) ⟨ids_str _, trivial⟩ H
  rintro r H' ⟨o', h1, _⟩
  rw [h] at h1
  cases h1
def psP (s : List UInt8) : Option Opv := match wordsB 32 s with
  | w :: l => cmdP w l
  | [] => none
theorem words_len (c : UInt8) : ∀ s, (wordsB c s).length ≤ s.length + 1
  | [] => Nat.le_refl _
  | b :: s => by
    have ih := words_len c s
    rw [wordsB_cons]
    obtain ⟨x, xs, hx⟩ := List.exists_cons_of_ne_nil (wordsB_ne c s)
    rw [hx] at ih ⊢
    split
    · simp at ih ⊢; omega
    · simp at ih ⊢; omega
set_option maxHeartbeats 0 in
theorem p1_yes (X : Nat → Prop) (s : List UInt8) (o : Opv) (hs : s.length ≤ 1000) (h : psP s = some o) :
    ACalls (E0 X) 17 [.ptr 0 0, .ptr 2 0] [some (.cells [.str s] 9), some (.cells cel0 26), some (.cells cel0 26), some (.cells [.bool false] 4)]
      (fun _ H' => H' = [some (.cells [.str s] 9), some (.cells cel0 26), some (.cells (opC o) 26), some (.cells [.bool false] 4)]) := by
  unfold psP at h
  have hb := words_bytes 32 s
  have hwl := words_len 32 s
  split at h
  · rename_i w l hw
    rw [hw] at hb hwl
    refine acalls_of Proofs.Tryd.func17 rfl Proofs.Tryd.ntmps17 (by kernel_rfl) rfl ?_
    intro hH hargs
    clear hH hargs
    repeat' (first | ((refine Qa rfl ?_); (refine Q3 rfl rfl rfl ?_); (refine QX rfl rfl ?_)) | refine Qa rfl ?_ | refine Qo rfl ?_)
    refine st_call (fun _ => rfl) rfl ?_
    refine ACalls.mono (acalls_pure (E := E0 X) (fun X => split_c X s 32 (by omega)) (by simp [IdsLtL, IdsLt]) _) ?_
    rintro r H' ⟨rfl, rfl⟩
    first | refine nx rfl rfl ?_ | refine nx0 ?_
    rw [hw]
    repeat' (refine Qa rfl ?_)
    refine st_call (fun _ => rfl) rfl ?_
    refine ACalls.mono (acalls_pure (E := E0 X) (fun X => cmd_yes X w l o (by simp at hwl; omega) (fun x hx => by have := hb x (List.mem_cons_of_mem _ hx); omega) h) (by simp [IdsLtL, IdsLt]) _) ?_
    rintro r H' ⟨rfl, rfl⟩
    first | refine nx rfl rfl ?_ | refine nx0 ?_
    repeat' (first | (refine Qb rfl ?_; try (refine QS rfl rfl rfl rfl rfl rfl rfl ?_; (refine QX rfl rfl ?_))) | refine Qh ?_)
    exact ⟨_, rfl, rfl⟩
  · cases h
set_option maxHeartbeats 0 in
theorem p1_no (X : Nat → Prop) (s : List UInt8) (hs : s.length ≤ 1000) (h : psP s = none) :
    APanics (E0 X) 17 [.ptr 0 0, .ptr 2 0] [some (.cells [.str s] 9), some (.cells cel0 26), some (.cells cel0 26), some (.cells [.bool false] 4)]
      (fun H' => H' = [some (.cells [.str s] 9), some (.cells cel0 26), some (.cells cel0 26), some (.cells [.bool false] 4)]) := by
  unfold psP at h
  have hb := words_bytes 32 s
  have hwl := words_len 32 s
  split at h
  · rename_i w l hw
    rw [hw] at hb hwl
    refine apanics_of Proofs.Tryd.func17 rfl Proofs.Tryd.ntmps17 (by kernel_rfl) rfl ?_
    skip
    refine awp_region_panicK 2 rfl rfl (by exact rfl) ?_
    repeat' (first | ((refine Qa rfl ?_); (refine Q3 rfl rfl rfl ?_); (refine QX rfl rfl ?_)) | refine Qa rfl ?_)
    refine st_call (fun _ => rfl) rfl ?_
    refine ACalls.mono (acalls_pure (E := E0 X) (fun X => split_c X s 32 (by omega)) (by simp [IdsLtL, IdsLt]) _) ?_
    rintro r H' ⟨rfl, rfl⟩
    first | refine nx rfl rfl ?_ | refine nx0 ?_
    rw [hw]
    repeat' (refine Qh ?_)
    refine ⟨rfl, ?_⟩
    refine pn_call (fun _ => rfl) rfl ?_
    exact (cmd_noP X w l (by simp at hwl; omega) (fun x hx => by have := hb x (List.mem_cons_of_mem _ hx); omega) h _).mono fun _ e ch hch => ⟨hch, e⟩
  · rename_i hw
    exact absurd hw (wordsB_ne 32 s)
def hpP (s : List UInt8) (cs : List AV) : Hp := [some (.cells [.str s] 9), some (.cells cel0 26), some (.cells cs 26)]
theorem cel0_ids {n : Nat} : IdsLtL n cel0 := ⟨trivial, trivial, trivial, trivial, trivial, trivial, trivial, trivial, trivial⟩
theorem hok_hpP (s : List UInt8) {cs : List AV} (h : IdsLtL 3 cs) : HOk 3 (hpP s cs) := fun j o ho => by
  match j, ho with
  | 0, ho => cases ho; exact ⟨trivial, trivial⟩
  | 1, ho => cases ho; exact cel0_ids
  | 2, ho => cases ho; exact h
theorem read_yes (X : Nat → Prop) (s : List UInt8) (o : Opv) (hs : s.length ≤ 1000) (h : psP s = some o) :
    ACalls (E0 X) 16 [.clo (.func 17) [] [.ptr 0 0, .ptr 2 0]] (hpP s cel0) (fun r H' => r = .bool true ∧ H' = hpP s (opC o)) := by
  refine ACalls.imp (read_core X 17 [.ptr 0 0, .ptr 2 0] (hpP s cel0) (hpP s (opC o)) true rfl (p1_yes X s o hs h).1 ?_) ?_
  · intro m w vs h1 h2 h3 h4
    refine ((p1_yes X s o hs h).2 m w vs h1 h2 h3 h4).mono ?_
    rintro e w' ⟨v, m', r, H', rfl, h5, h6, h7, rfl⟩
    exact ⟨m', [], h5, h7, .inl ⟨rfl, v, rfl⟩⟩
  · rintro r H' ⟨rfl, rest, rfl⟩
    exact ⟨_, _, ⟨rfl, rfl⟩, imp_cutk 3 (Nat.le_refl _) (hok_hpP s (opC_ids o)) rfl (by simp [hpP]) (fa_cons ⟨rfl, trivial⟩ fa_nil)⟩
theorem read_no (X : Nat → Prop) (s : List UInt8) (hs : s.length ≤ 1000) (h : psP s = none) :
    ACalls (E0 X) 16 [.clo (.func 17) [] [.ptr 0 0, .ptr 2 0]] (hpP s cel0) (fun r H' => r = .bool false ∧ H' = hpP s cel0) := by
  refine ACalls.imp (read_core X 17 [.ptr 0 0, .ptr 2 0] (hpP s cel0) (hpP s cel0) false rfl (p1_no X s hs h).1 ?_) ?_
  · intro m w vs h1 h2 h3 h4
    refine ((p1_no X s hs h).2 m w vs h1 h2 h3 h4).mono ?_
    rintro e w' ⟨ch, m', H', rfl, h5, h6, h7, rfl⟩
    exact ⟨m', [], h6, h7, .inr ⟨rfl, ch, rfl, h5⟩⟩
  · rintro r H' ⟨rfl, rest, rfl⟩
    exact ⟨_, _, ⟨rfl, rfl⟩, imp_cutk 3 (Nat.le_refl _) (hok_hpP s cel0_ids) rfl (by simp [hpP]) (fa_cons ⟨rfl, trivial⟩ fa_nil)⟩
/-- What Parse returns. -/
def resP : Option Opv → AV
  | some o => .tup [opS o, .bool true]
  | none => .tup [opS (op0 0), .bool false]
theorem resP_ids (x : Option Opv) : IdsLt 0 (resP x) := by
  cases x <;> exact ⟨opC_ids _, trivial, trivial⟩
theorem wk_z : Wk (.agg cel0) (opS (op0 0)) :=
  wk_agg (wkL_cons (Wk.refl _) (wkL_cons wk_nil (wkL_cons wk_nil (wkL_cons (Wk.refl _) (wkL_cons (Wk.refl _) (wkL_cons (Wk.refl _) (wkL_cons wk_nil (wkL_cons wk_nil wkL_nil))))))))
set_option maxHeartbeats 0 in
theorem parse_c (X : Nat → Prop) (s : List UInt8) (hs : s.length ≤ 1073741824) : ACalls (E0 X) 7 [.str s] [] (fun r H' => r = resP (parseP s) ∧ H' = []) := by
  refine ACalls.cut0 (ACalls.wkR (R := fun r _ => Wk r (resP (parseP s))) ?_ fun r H' h => ⟨_, rfl, h⟩) (resP_ids _)
  by_cases h0 : 1000 < s.length
  · rw [parseP, if_pos h0]
    refine acalls_of Proofs.Tryd.func7 rfl Proofs.Tryd.ntmps7 (by kernel_rfl) rfl ?_
    intro hH hargs
    clear hH hargs
    repeat' (first | ((refine Qa rfl ?_); (first | refine Q1 ?_ | refine Q2 rfl ?_ | refine Q3 rfl rfl rfl ?_ | refine Q8 rfl rfl rfl ?_ | refine QJ rfl rfl ?_ | refine QK rfl ?_); (refine QX rfl rfl ?_)) | refine Qh ?_ | refine Ql ?_ | refine Qo rfl ?_ | refine Qs ?_)
    refine awp_cond_dec rfl (fun h1 => ?_) (fun h1 => ?_)
    · repeat' (first | ((refine Qa rfl ?_); (first | refine Q1 ?_ | refine QP rfl rfl rfl rfl rfl rfl ?_); (refine QX rfl rfl ?_)) | (refine Qb rfl ?_; try (refine QS rfl rfl rfl rfl rfl rfl rfl ?_; (refine QX rfl rfl ?_))) | refine Qh ?_ | refine Ql ?_ | refine Qo rfl ?_ | refine Qs ?_)
      refine awp_ret ?_
      exact ⟨_, rfl, wk_tup (wkL_cons wk_z (WkL.refl _))⟩
    · exact absurd (by omega) h1
  have hpp : parseP s = psP s := by rw [parseP, if_neg h0]; rfl
  rw [hpp]
  cases hp : psP s with
  | none =>
    refine acalls_of Proofs.Tryd.func7 rfl Proofs.Tryd.ntmps7 (by kernel_rfl) rfl ?_
    intro hH hargs
    clear hH hargs
    repeat' (first | ((refine Qa rfl ?_); (first | refine Q1 ?_ | refine Q2 rfl ?_ | refine Q3 rfl rfl rfl ?_ | refine Q8 rfl rfl rfl ?_ | refine QJ rfl rfl ?_ | refine QK rfl ?_); (refine QX rfl rfl ?_)) | refine Qh ?_ | refine Ql ?_ | refine Qo rfl ?_ | refine Qs ?_)
    refine awp_cond_dec rfl (fun h1 => ?_) (fun h1 => ?_)
    · exact absurd h1 (by omega)
    repeat' (first | ((refine Qa rfl ?_); (first | refine QJ rfl rfl ?_ | refine QN ?_); (refine QX rfl rfl ?_)) | refine Qa rfl ?_ | refine Qh ?_ | refine Ql ?_ | refine Qm ?_ | refine Qo rfl ?_)
    refine st_call (fun _ => rfl) rfl ?_
    refine ACalls.mono (read_no X s (by omega) hp) ?_
    rintro r H' ⟨rfl, rfl⟩
    first | refine nx rfl rfl ?_ | refine nx0 ?_
    repeat' (first | ((refine Qa rfl ?_); (first | refine Q0 ?_ | refine Q1 ?_ | refine Q3 rfl rfl rfl ?_); (refine QX rfl rfl ?_)) | (refine Qb rfl ?_; try (refine QS rfl rfl rfl rfl rfl rfl rfl ?_; (refine QX rfl rfl ?_))) | refine Qh ?_ | refine Ql ?_ | refine Qo rfl ?_ | refine Qs ?_)
    refine awp_ret ?_
    exact ⟨_, rfl, wk_tup (wkL_cons wk_z (WkL.refl _))⟩
  | some o =>
    refine acalls_of Proofs.Tryd.func7 rfl Proofs.Tryd.ntmps7 (by kernel_rfl) rfl ?_
    intro hH hargs
    clear hH hargs
    repeat' (first | ((refine Qa rfl ?_); (first | refine Q1 ?_ | refine Q2 rfl ?_ | refine Q3 rfl rfl rfl ?_ | refine Q8 rfl rfl rfl ?_ | refine QJ rfl rfl ?_ | refine QK rfl ?_); (refine QX rfl rfl ?_)) | refine Qh ?_ | refine Ql ?_ | refine Qo rfl ?_ | refine Qs ?_)
    refine awp_cond_dec rfl (fun h1 => ?_) (fun h1 => ?_)
    · exact absurd h1 (by omega)
    repeat' (first | ((refine Qa rfl ?_); (first | refine QJ rfl rfl ?_ | refine QN ?_); (refine QX rfl rfl ?_)) | refine Qa rfl ?_ | refine Qh ?_ | refine Ql ?_ | refine Qm ?_ | refine Qo rfl ?_)
    refine st_call (fun _ => rfl) rfl ?_
    refine ACalls.mono (read_yes X s o (by omega) hp) ?_
    rintro r H' ⟨rfl, rfl⟩
    first | refine nx rfl rfl ?_ | refine nx0 ?_
    repeat' (first | ((refine Qa rfl ?_); (first | refine Q0 ?_ | refine Q1 ?_ | refine Q3 rfl rfl rfl ?_); (refine QX rfl rfl ?_)) | (refine Qb rfl ?_; try (refine QS rfl rfl rfl rfl rfl rfl rfl ?_; (refine QX rfl rfl ?_))) | refine Qh ?_ | refine Ql ?_ | refine Qo rfl ?_ | refine Qs ?_)
    refine awp_ret ?_
    exact ⟨_, rfl, Wk.refl _⟩
end Go.Abs
namespace Go.Abs
attribute [local irreducible] AStep aops AWp Nx awM APanic
theorem hex_sl {i : Nat} (h : i < 16) : ((hexS.take (i + 1)).drop i) = [hexC i] := by
  have key : ((List.range 16).all fun i => (hexS.take (i + 1)).drop i == [hexC i]) = true := by kernel_rfl
  simpa using List.all_eq_true.1 key i (by simpa using h)
theorem u8_shr4 (x : UInt8) : ((x.toNat : Int)).fdiv (2 ^ (min (4 : Int).toNat IntKind.u8.bits)) = ((x.toNat / 16 : Nat) : Int) := by
  have : (2 : Int) ^ (min (4 : Int).toNat IntKind.u8.bits) = 16 := by decide
  rw [this, Int.fdiv_eq_ediv_of_nonneg _ (by decide)]; omega
theorem u8_and15 (x : UInt8) : ibits .and .u8 (x.toNat : Int) 15 = ((x.toNat % 16 : Nat) : Int) := by
  have key : ((List.range 256).all fun a => decide (ibits .and .u8 (a : Int) 15 = ((a % 16 : Nat) : Int))) = true := by kernel_rfl
  have h1 := List.all_eq_true.1 key x.toNat (List.mem_range.2 x.toNat_lt)
  simpa using h1
theorem u8_succ {a : Nat} (h : a < 16) : IntKind.u8.wrap ((a : Int) + 1) = ((a + 1 : Nat) : Int) := by
  simp only [IntKind.wrap, IntKind.signed, IntKind.bits]
  simp
  omega
theorem hexW_take {b : List UInt8} {i : Nat} {x : UInt8} (h : b[i]? = some x) : hexW (b.take (i + 1)) = hexW (b.take i) ++ [hexC (x.toNat / 16), hexC (x.toNat % 16)] := by
  rw [List.take_add_one, h]
  simp [hexW]
theorem hexW_len (b : List UInt8) : (hexW b).length = 2 * b.length := by
  induction b with
  | nil => rfl
  | cons x b ih =>
    unfold hexW at ih ⊢
    rw [List.flatMap_cons, List.length_append, ih]
    simp; omega
set_option maxHeartbeats 0 in
theorem written_c (X : Nat → Prop) (b : List UInt8) (hb : b.length ≤ 1000000) : ACalls (E0 X) 45 [.sl 1 (b.map u8A)] [] (fun r H' => r = .str (txtW b) ∧ H' = []) := by
  refine ACalls.cut0 ?_ trivial
  refine acalls_of Proofs.Tryd.func45 rfl Proofs.Tryd.ntmps45 (by kernel_rfl) rfl ?_
  intro hH hargs
  clear hH hargs
  repeat' (first | ((refine Qa rfl ?_); (first | refine Q0 ?_ | refine Q1 ?_ | refine Q2 rfl ?_ | refine Q7 rfl rfl rfl ?_); (refine QX rfl rfl ?_)) | refine Qh ?_ | refine Ql ?_ | refine Qo rfl ?_ | refine Qs ?_)
  refine awp_cond_dec rfl (fun h1 => ?_) (fun h1 => ?_)
  · have : b = [] := List.eq_nil_of_length_eq_zero (by simpa using h1)
    subst this
    repeat' (first | ((refine Qa rfl ?_); (refine Q1 ?_); (refine QX rfl rfl ?_)) | refine Qh ?_ | refine Ql ?_ | refine Qo rfl ?_ | refine Qs ?_)
    refine awp_ret ?_
    exact ⟨_, rfl, rfl⟩
  have hne : b ≠ [] := fun e => h1 (by subst e; rfl)
  rw [txtW, if_neg hne]
  repeat' (first | ((refine Qa rfl ?_); (first | refine Q0 ?_ | refine Q1 ?_ | refine Q7 rfl rfl rfl ?_); (refine QX rfl rfl ?_)) | refine Qh ?_ | refine Ql ?_ | refine Qm ?_ | refine Qn ?_ | refine Qo rfl ?_)
  refine awp_loop2 (fun i : Nat => ⟨[(9, .sl 1 (b.map u8A)), (10, .int .i64 (b.length : Int)), (11, .int .i64 (i : Int)), (3, .str (hexW (b.take i)))], []⟩) (fun i => i ≤ b.length) (fun i => b.length - i) 0 (Nat.zero_le _) ?_ ?_
  · refine imp_tidy0 ?_
    refine fa_cons (ren_val rfl (u8_ids' b)) (fa_cons (ren_val ?_ trivial) (fa_cons (ren_val rfl trivial) (fa_cons (ren_val rfl trivial) fa_nil)))
    exact congrArg (fun n : Nat => AV.int .i64 (n : Int)) (List.length_map _)
  intro i hi
  repeat' (first | ((refine Qa rfl ?_); (refine Q2 rfl ?_); (refine QX rfl rfl ?_)) | refine Qh ?_ | refine Ql ?_ | refine Qo rfl ?_)
  refine awp_cond_dec rfl (fun h2 => ?_) (fun h2 => ?_)
  · obtain ⟨x, hx⟩ : ∃ x, b[i]? = some x := ⟨_, List.getElem?_eq_getElem (by omega)⟩
    have hlt := x.toNat_lt
    have hl2 := hexW_len (b.take i)
    have hl3 : (b.take i).length ≤ b.length := by rw [List.length_take]; omega
    repeat' (first | refine Qa rfl ?_ | refine Ql ?_ | refine Qm ?_ | refine Qn ?_ | refine Qo rfl ?_)
    refine st_ixm hx rfl rfl rfl rfl rfl rfl rfl (by first | rfl | omega) rfl ?_
    first | refine nx rfl rfl ?_ | refine nx0 ?_
    repeat' (first | ((refine Qa rfl ?_); (first | refine Q1 ?_ | refine Q3 rfl rfl rfl ?_); (refine QX rfl rfl ?_)) | refine Qh ?_ | refine Qs ?_)
    refine awp_region_auto2 [] [] (by exact rfl) (by kernel_rfl) ?_
    repeat' ((apply Qd rfl rfl rfl rfl); (refine Q0 ?_); (exact QX rfl rfl ⟨rfl, rfl⟩))
    apply ds rfl rfl rfl rfl
    · refine st_shr rfl rfl (by decide) ?_
      first | exact nx rfl rfl ⟨rfl, rfl⟩ | exact nx0 ⟨rfl, rfl⟩
    rw [u8_shr4]
    repeat' ((apply Qd rfl rfl rfl rfl); (refine Q0 ?_); (exact QX rfl rfl ⟨rfl, rfl⟩))
    apply ds rfl rfl rfl rfl
    · refine st_shr rfl rfl (by decide) ?_
      first | exact nx rfl rfl ⟨rfl, rfl⟩ | exact nx0 ⟨rfl, rfl⟩
    rw [u8_shr4]
    repeat' ((apply Qd rfl rfl rfl rfl); (refine Q2 rfl ?_); (exact QX rfl rfl ⟨rfl, rfl⟩))
    rw [u8_succ (a := x.toNat / 16) (by omega)]
    apply ds rfl rfl rfl rfl
    · refine st_sst (l := x.toNat / 16) (h := x.toNat / 16 + 1) (ys := [hexC (x.toNat / 16)]) (bnd_some rfl rfl) (bnd_some rfl rfl) (by omega) ((by show _ ≤ 16; omega)) (hex_sl (by omega)) rfl rfl rfl ?_
      first | exact nx rfl rfl ⟨rfl, rfl⟩ | exact nx0 ⟨rfl, rfl⟩
    repeat' ((apply Qd rfl rfl rfl rfl); (first | refine Q0 ?_ | refine Q2 rfl ?_); (exact QX rfl rfl ⟨rfl, rfl⟩))
    rw [u8_and15]
    rw [u8_succ (a := x.toNat % 16) (by omega)]
    apply ds rfl rfl rfl rfl
    · refine st_sst (l := x.toNat % 16) (h := x.toNat % 16 + 1) (ys := [hexC (x.toNat % 16)]) (bnd_some rfl rfl) (bnd_some rfl rfl) (by omega) ((by show _ ≤ 16; omega)) (hex_sl (by omega)) rfl rfl rfl ?_
      first | exact nx rfl rfl ⟨rfl, rfl⟩ | exact nx0 ⟨rfl, rfl⟩
    apply ds rfl rfl rfl rfl
    · refine st_sadd rfl rfl (by simp) ?_
      first | exact nx rfl rfl ⟨rfl, rfl⟩ | exact nx0 ⟨rfl, rfl⟩
    apply ds rfl rfl rfl rfl
    · refine st_sadd rfl rfl (by simp; omega) ?_
      first | exact nx rfl rfl ⟨rfl, rfl⟩ | exact nx0 ⟨rfl, rfl⟩
    repeat' (first | ((first | refine Qa rfl ?_ | apply Qd rfl rfl rfl rfl); (first | refine Q0 ?_ | refine Q1 ?_ | refine Q2 rfl ?_); (first | exact QX rfl rfl ⟨rfl, rfl⟩ | refine QX rfl rfl ?_)) | refine Qh ?_ | refine Qk ?_ | refine Qo rfl ?_ | refine Qs ?_)
    refine ⟨i + 1, by show i + 1 ≤ b.length; omega, by show b.length - (i + 1) < b.length - i; omega, imp_tidy0 ?_⟩
    refine fa_cons (ren_val rfl (u8_ids' b)) (fa_cons (ren_val rfl trivial) (fa_cons (ren_val ?_ trivial) (fa_cons (ren_val ?_ trivial) fa_nil)))
    · exact congrArg (AV.int .i64) (by rw [wrap_in (by omega) (by omega)]; simp)
    · exact congrArg AV.str (by rw [hexW_take hx]; rfl)
  · have : i = b.length := by omega
    subst this
    repeat' (first | ((refine Qa rfl ?_); (first | refine Q0 ?_ | refine Q1 ?_); (refine QX rfl rfl ?_)) | refine Qh ?_ | refine Ql ?_ | refine Qo rfl ?_ | refine Qr ?_ | refine Qs ?_)
    refine awp_ret ?_
    exact ⟨_, rfl, by show AV.str (hexW (b.take b.length)) = _; rw [List.take_length]⟩
theorem ch_take {b : List Bool} {i : Nat} {x : Bool} (h : b[i]? = some x) : (b.take (i + 1)).map bitC = (b.take i).map bitC ++ [bitC x] := by
  rw [List.take_add_one, h]
  simp
set_option maxHeartbeats 0 in
theorem choices_c (X : Nat → Prop) (b : List Bool) (hb : b.length ≤ 1000000) : ACalls (E0 X) 46 [.sl 1 (b.map boA)] [] (fun r H' => r = .str (chW b) ∧ H' = []) := by
  refine ACalls.cut0 ?_ trivial
  refine acalls_of Proofs.Tryd.func46 rfl Proofs.Tryd.ntmps46 (by kernel_rfl) rfl ?_
  intro hH hargs
  clear hH hargs
  repeat' (first | ((refine Qa rfl ?_); (first | refine Q0 ?_ | refine Q1 ?_ | refine Q2 rfl ?_ | refine Q7 rfl rfl rfl ?_); (refine QX rfl rfl ?_)) | refine Qh ?_ | refine Ql ?_ | refine Qo rfl ?_ | refine Qs ?_)
  refine awp_cond_dec rfl (fun h1 => ?_) (fun h1 => ?_)
  · have : b = [] := List.eq_nil_of_length_eq_zero (by simpa using h1)
    subst this
    repeat' (first | ((refine Qa rfl ?_); (refine Q1 ?_); (refine QX rfl rfl ?_)) | refine Qh ?_ | refine Ql ?_ | refine Qo rfl ?_ | refine Qs ?_)
    refine awp_ret ?_
    exact ⟨_, rfl, rfl⟩
  have hne : b ≠ [] := fun e => h1 (by subst e; rfl)
  rw [chW, if_neg hne]
  repeat' (first | ((refine Qa rfl ?_); (first | refine Q0 ?_ | refine Q1 ?_ | refine Q7 rfl rfl rfl ?_); (refine QX rfl rfl ?_)) | refine Qh ?_ | refine Ql ?_ | refine Qm ?_ | refine Qn ?_ | refine Qo rfl ?_)
  refine awp_loop2 (fun i : Nat => ⟨[(9, .sl 1 (b.map boA)), (10, .int .i64 (b.length : Int)), (11, .int .i64 (i : Int)), (3, .str ((b.take i).map bitC))], []⟩) (fun i => i ≤ b.length) (fun i => b.length - i) 0 (Nat.zero_le _) ?_ ?_
  · refine imp_tidy0 ?_
    refine fa_cons (ren_val rfl (bo_ids' b)) (fa_cons (ren_val ?_ trivial) (fa_cons (ren_val rfl trivial) (fa_cons (ren_val rfl trivial) fa_nil)))
    exact congrArg (fun n : Nat => AV.int .i64 (n : Int)) (List.length_map _)
  intro i hi
  repeat' (first | ((refine Qa rfl ?_); (refine Q2 rfl ?_); (refine QX rfl rfl ?_)) | refine Qh ?_ | refine Ql ?_ | refine Qo rfl ?_)
  refine awp_cond_dec rfl (fun h2 => ?_) (fun h2 => ?_)
  · obtain ⟨x, hx⟩ : ∃ x, b[i]? = some x := ⟨_, List.getElem?_eq_getElem (by omega)⟩
    have hl3 : (b.take i).length ≤ b.length := by rw [List.length_take]; omega
    repeat' (first | refine Qa rfl ?_ | refine Ql ?_ | refine Qm ?_ | refine Qn ?_ | refine Qo rfl ?_)
    refine st_ixm hx rfl rfl rfl rfl rfl rfl rfl (by first | rfl | omega) rfl ?_
    first | refine nx rfl rfl ?_ | refine nx0 ?_
    repeat' (first | ((refine Qa rfl ?_); (first | refine Q0 ?_ | refine Q1 ?_ | refine Q3 rfl rfl rfl ?_); (refine QX rfl rfl ?_)) | refine Qh ?_ | refine Ql ?_ | refine Qo rfl ?_ | refine Qs ?_)
    cases x with
    | true =>
      repeat' (first | ((refine Qa rfl ?_); (refine Q0 ?_); (refine QX rfl rfl ?_)) | refine Qa rfl ?_ | refine Qo rfl ?_ | refine Qp rfl ?_)
      refine st_sadd rfl rfl (by simp; omega) ?_
      first | refine nx rfl rfl ?_ | refine nx0 ?_
      repeat' (first | ((refine Qa rfl ?_); (first | refine Q0 ?_ | refine Q1 ?_ | refine Q2 rfl ?_); (refine QX rfl rfl ?_)) | refine Qh ?_ | refine Qo rfl ?_ | refine Qs ?_)
      refine ⟨i + 1, by show i + 1 ≤ b.length; omega, by show b.length - (i + 1) < b.length - i; omega, imp_tidy0 ?_⟩
      refine fa_cons (ren_val rfl (bo_ids' b)) (fa_cons (ren_val rfl trivial) (fa_cons (ren_val ?_ trivial) (fa_cons (ren_val ?_ trivial) fa_nil)))
      · exact congrArg (AV.int .i64) (by rw [wrap_in (by omega) (by omega)]; simp)
      · exact congrArg AV.str (by rw [ch_take hx]; rfl)
    | false =>
      repeat' (first | ((refine Qa rfl ?_); (refine Q0 ?_); (refine QX rfl rfl ?_)) | refine Qa rfl ?_ | refine Qo rfl ?_ | refine Qq rfl ?_)
      refine st_sadd rfl rfl (by simp; omega) ?_
      first | refine nx rfl rfl ?_ | refine nx0 ?_
      repeat' (first | ((refine Qa rfl ?_); (first | refine Q0 ?_ | refine Q1 ?_ | refine Q2 rfl ?_); (refine QX rfl rfl ?_)) | refine Qh ?_ | refine Qo rfl ?_ | refine Qs ?_)
      refine ⟨i + 1, by show i + 1 ≤ b.length; omega, by show b.length - (i + 1) < b.length - i; omega, imp_tidy0 ?_⟩
      refine fa_cons (ren_val rfl (bo_ids' b)) (fa_cons (ren_val rfl trivial) (fa_cons (ren_val ?_ trivial) (fa_cons (ren_val ?_ trivial) fa_nil)))
      · exact congrArg (AV.int .i64) (by rw [wrap_in (by omega) (by omega)]; simp)
      · exact congrArg AV.str (by rw [ch_take hx]; rfl)
  · have : i = b.length := by omega
    subst this
    repeat' (first | ((refine Qa rfl ?_); (first | refine Q0 ?_ | refine Q1 ?_); (refine QX rfl rfl ?_)) | refine Qh ?_ | refine Ql ?_ | refine Qo rfl ?_ | refine Qr ?_ | refine Qs ?_)
    refine awp_ret ?_
    exact ⟨_, rfl, by show AV.str ((b.take b.length).map bitC) = _; rw [List.take_length]⟩
end Go.Abs
namespace Go.Abs
open Go.Proofs Go.RowKit
theorem tab_of_glob {X : Nat → Prop} {m : Mu} {w : World} (hg : Glob (E0 X) m w) : Lib.TabIs (E0 X).P w "internal/strconv.uint64pow10" .u64 Lib.pow10Tab := by
  have h := hg 3
  have e : (E0 X).G 3 = .gp .u64 powTab := rfl
  rw [e] at h
  simp only [Env.Rel, Abs.Rel] at h
  obtain ⟨b, t, h1, h2, h3⟩ := h
  simp only [Value.pointer.injEq, Option.some.injEq, Addr.mk.injEq, and_true] at h1
  subst h1
  obtain ⟨a, h4, h5, _, _, h6⟩ := h3 (by simp [powTab])
  cases h4
  unfold Lib.TabIs World.var?
  have hgn : (E0 X).P.globalNamed "internal/strconv.uint64pow10" = some 3 := by kernel_rfl
  rw [hgn, Option.bind_some]
  unfold World.shape? at h2
  cases hh : w.heap[3]? with
  | none => rw [hh] at h2; cases h2
  | some o =>
    rw [hh] at h2
    cases o with
    | cells c el fz =>
      simp only [Option.some.injEq, Prod.mk.injEq] at h2
      have hpe : powTab = Lib.pow10Tab := rfl
      have hcs : c = (Lib.pow10Tab.map fun z => Value.int .u64 z).toArray := by
        refine Array.ext_getElem? fun j => ?_
        rcases Nat.lt_or_ge j c.size with hj | hj
        · have hj2 : j < powTab.length := by omega
          have h7 := h6 j (Value.int .u64 powTab[j]) (by rw [List.getElem?_map, List.getElem?_eq_getElem hj2]; rfl)
          have hadd : (⟨3, 0, none⟩ : Addr).add j = ⟨3, j, none⟩ := by unfold Addr.add; split <;> simp_all
          rw [hadd] at h7
          unfold World.cell? at h7
          rw [hh] at h7
          have h8 : c[j]? = some (Value.int .u64 powTab[j]) := h7
          rw [h8, ← hpe, List.getElem?_toArray, List.getElem?_map, List.getElem?_eq_getElem hj2]
          rfl
        · rw [Array.getElem?_eq_none hj, Array.getElem?_eq_none (by simp; rw [← hpe]; omega)]
      rw [hcs]
    | _ => cases h2
theorem itoa_c (X : Nat → Prop) (n : Int) (h0 : -9223372036854775808 ≤ n) (h1 : n ≤ 9223372036854775807) : ACalls (E0 X) 44 [.int .i64 n] [] (fun r H' => r = .str (Lib.itoa n) ∧ H' = []) := by
  refine ⟨⟨_, Proofs.Tryd.func44, rfl, rfl⟩, fun m w vs hok hglob hargs hsim => ?_⟩
  obtain ⟨u1, us, rfl, h2, h3⟩ := relL_cons.1 hargs
  rw [relL_nil] at h3
  subst h3
  have e1 := rel_int h2
  subst e1
  have hm : m = [] := List.eq_nil_of_length_eq_zero (by rw [hsim.len]; rfl)
  subst hm
  refine (Any.strconv_Itoa Proofs.Tryd.itoaL n h0 h1 w (tab_of_glob hglob)).mono ?_
  rintro e w' ⟨rfl, k, os, rfl⟩
  have hext := ext_below (m' := []) (Lib.below_grow w.heap.size w (Nat.le_refl _) k os) (fun b h => by simp at h)
  exact ⟨_, [], .str _, [], rfl, hext, mk_str, hsim.of_ext hext fun b hb2 => absurd hb2 (by simp), rfl, rfl⟩
theorem joinX : Builder.Extra Proofs.Tryd.prog Proofs.Tryd.joinL_ren where
  sizeBuilder := by kernel_rfl
  liesBuilder := by kernel_rfl
  t5 := Proofs.Tryd.underlying5
  a5 := Proofs.Tryd.isAgg5
  z5 := Proofs.Tryd.sizeOf5
  v5 := Proofs.Tryd.zeroValue5
  infoByte := by kernel_rfl
  cellsByte := by kernel_rfl
  sizeByte := by kernel_rfl
  neB5 := by decide
theorem relL_str_inv {sz : Cx} {m : Mu} {w : World} : ∀ (l : List (List UInt8)) (vs : List Value), RelL sz m w (l.map strA) vs → vs = l.map fun s => Value.string ⟨s.toArray⟩
  | [], vs, h => by simpa [Abs.RelL] using h
  | b :: l, vs, h => by
    obtain ⟨u, r, rfl, h1, h2⟩ := relL_cons.1 h
    have e1 : u = Value.string ⟨b.toArray⟩ := by simpa [strA, Abs.Rel] using h1
    rw [e1, relL_str_inv l r h2]
    rfl
theorem flat_str (l : List (List UInt8)) : flat (l.map fun s => Value.string ⟨s.toArray⟩) = l.map fun s => Value.string ⟨s.toArray⟩ := by
  induction l with
  | nil => rfl
  | cons s l ih => unfold flat at ih ⊢; rw [List.map_cons, List.flatMap_cons, ih]; rfl
theorem join_c (X : Nat → Prop) (l : List (List UInt8)) (s : List UInt8) (hl : l.length ≤ 1000000) (hj : (Lib.join l s).length ≤ 140737488355328) : ACalls (E0 X) 23 [.sl 1 (l.map strA), .str s] [] (fun r H' => r = .str (Lib.join l s) ∧ H' = []) := by
  refine ⟨⟨_, Proofs.Tryd.func23, rfl, rfl⟩, fun m w vs hok hglob hargs hsim => ?_⟩
  obtain ⟨u1, us, rfl, h2, h3⟩ := relL_cons.1 hargs
  obtain ⟨u2, us2, rfl, h4, h5⟩ := relL_cons.1 h3
  rw [relL_nil] at h5
  subst h5
  have e1 := rel_str h4
  subst e1
  have hm : m = [] := List.eq_nil_of_length_eq_zero (by rw [hsim.len]; rfl)
  subst hm
  simp only [Abs.Rel] at h2
  obtain ⟨A, c, vs, rfl, h6, h7, h8, h9, h10⟩ := h2
  have hvs := relL_str_inv l vs h8
  subst hvs
  rw [flat_str] at h10
  have fin : ∀ {e w'}, (e = Ending.returned (.string ⟨(Lib.join l s).toArray⟩) ∧ Below w.heap.size w w') → ∃ v m' r H', e = Ending.returned v ∧ Ext [] w m' w' ∧ (E0 X).Rel m' w' r v ∧ (E0 X).Sim m' w' H' ∧ r = AV.str (Lib.join l s) ∧ H' = [] := by
    rintro e w' ⟨rfl, hb⟩
    have hext := ext_below (m' := []) hb (fun b h => by simp at h)
    exact ⟨_, [], .str _, [], rfl, hext, mk_str, hsim.of_ext hext fun b hb2 => absurd hb2 (by simp), rfl, rfl⟩
  by_cases hne : l = []
  · subst hne
    refine (Any.strings_Join_none Proofs.Tryd.joinL joinX A c ⟨s.toArray⟩ w).mono ?_
    rintro e w' ⟨rfl, rfl⟩
    exact fin ⟨rfl, Below.refl _ _⟩
  · obtain ⟨a, rfl, h11, _, _, h12⟩ := h10 (by simpa using hne)
    have hsp : a.spot = none := by
      obtain ⟨x, l', rfl⟩ := List.exists_cons_of_ne_nil hne
      have h0 := h12 0 _ rfl
      unfold World.cell? at h0
      split at h0
      · split at h0
        · cases h0
        · rename_i h
          have : (a.add 0) = a := rfl
          rw [this] at h
          cases ha : a.spot with
          | none => rfl
          | some q => rw [ha] at h; exact absurd rfl h
      · cases h0
    obtain ⟨bk, o, sp⟩ := a
    simp only at hsp h11
    subst hsp
    have hlen : (l.map fun s => (⟨s.toArray⟩ : ByteArray)).length = l.length := List.length_map _
    have hmm : (l.map fun s => (⟨s.toArray⟩ : ByteArray)).map (·.data.toList) = l := by
      rw [List.map_map]
      exact List.map_id l
    have := Any.strings_Join Proofs.Tryd.joinL joinX bk o c (l.map fun s => ⟨s.toArray⟩) ⟨s.toArray⟩ w (fun j x hx => ?_) h11 (by rw [hlen]; omega) (by rw [hlen]; simpa using h6) (by rw [hmm]; exact hj)
    · rw [hlen, hmm] at this
      rw [List.length_map]
      exact this.mono fun e w' h => fin h
    · have hx2 : (l.map fun s => Value.string ⟨s.toArray⟩)[j]? = some (.string x) := by
        rw [List.getElem?_map] at hx ⊢
        cases hlj : l[j]? with
        | none => rw [hlj] at hx; cases hx
        | some y => rw [hlj] at hx; cases hx; rfl
      have h13 := h12 j _ hx2
      have hadd : (⟨bk, o, none⟩ : Addr).add j = ⟨bk, o + j, none⟩ := by unfold Addr.add; split <;> simp_all
      rw [hadd] at h13
      exact h13
end Go.Abs

