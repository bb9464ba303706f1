/- From a contract to a law's statement. -/
import Derived.Test.YtfldnfchjaaoeaaA14
namespace Go.Abs
open Go.RowKit Go.ChangeShapes Go.WideShapes
section
variable {E : Env} {H : Type} {enc : TypeId × Value → H} {W : World}

theorem arg_av (hok : E.Ok) (hX : ∀ b, ¬ E.X b) {f : Nat} {t : TypeId} {v : Value} {d : DataW H} {ps : List MemPlace} {base : Nat} (hp : plainT E f t = true) (hna : (E.ti t).k.agg = false)
    (hval : Value.okWide E.P W .any base t v) (h : DataW.Trod enc E.P W 0 (fun _ => true) true t v d ps) : ∃ x, E.Rel [] W x v ∧ hasC E f t [x] := by
  obtain ⟨fuel, hf⟩ := h
  obtain ⟨xs, h1, h2, h3⟩ := trod_av hok hX f fuel t _ _ hp hf
  obtain ⟨x, v', rfl, h5, h6, h7⟩ := one_cell h2 hna h1
  have hv : v.cells.toList = [v] := by
    cases f with
    | zero => simp [plainT] at hp
    | succ f =>
      simp only [plainT, Bool.and_eq_true] at hp
      obtain ⟨ht, hp⟩ := hp
      cases hk : (E.ti t).k with
      | int k => obtain ⟨n, rfl⟩ := okWide_int (tk_int hok ht hk) hval; rfl
      | bool => obtain ⟨n, rfl⟩ := WideShapes.okWide_bool (tk_bool hok ht hk) hval; rfl
      | str => obtain ⟨n, rfl⟩ := okWide_string (tk_str hok ht hk) hval; rfl
      | sl e => obtain ⟨a, l, c, rfl⟩ := okWide_slice (tk_sl hok ht hk) hval; rfl
      | struct fs => rw [hk] at hna; cases hna
      | _ => rw [hk] at hp; simp at hp
  rw [hv] at h5
  simp only [List.cons.injEq, and_true] at h5
  subst h5
  exact ⟨x, h6, h2⟩

theorem trodAll_stay {P : Program} (hl : laidOutB P = true) {W' : World} (hb : Below W.heap.size W W') {sp : Nat → Bool} : ∀ {ts : List TypeId} {vs : List Value} {ds : List (DataW H)} {ps : List MemPlace},
    (ts.all fun t => P.readableRec t && decide (t < P.types.size)) = true → DataW.TrodAll enc P W 0 (fun _ => true) true ts vs ds ps → (∀ p ∈ ps, p.block < W.heap.size) → (∀ p ∈ ps, sp p.block = true) → DataW.TrodAll enc P W' 0 sp true ts vs ds ps
  | [], _, _, _, _, h, _, _ => by obtain ⟨rfl, rfl, rfl⟩ := trodAll_nil h; rfl
  | t :: ts, _, _, _, ht, h, hlt, hs => by
    obtain ⟨v, vs, d, ds, p, q, rfl, rfl, rfl, h1, h2⟩ := trodAll_cons h
    simp only [List.all_cons, Bool.and_eq_true, decide_eq_true_eq] at ht
    exact ⟨p, q, WideElems.Trod_stays hl ht.1.1 ht.1.2 h1 (fun x hx => hb.same (hlt x (List.mem_append_left _ hx))) (fun x hx => hs x (List.mem_append_left _ hx)),
      trodAll_stay hl hb ht.2 h2 (fun x hx => hlt x (List.mem_append_right _ hx)) (fun x hx => hs x (List.mem_append_right _ hx)), rfl⟩

theorem below_keptBut {W' : World} (hb : Below W.heap.size W W') (may : MemPlace → Prop) : W.keptBut W' may := by
  refine ⟨hb.os, hb.output, fun i hi => ?_⟩
  rw [hb.block i hi]
  cases h : W.heap[i]? with
  | none => rfl
  | some o => cases o <;> simp

/-- A law that answers true and changes nothing. -/
theorem post_true {P : Program} {f : Func} {s : ChangeSpec} {apart fresh handsOn again : Bool} {W' : World} {args : Array Value} {ds gs : List (DataW H)} {before : List MemPlace} {tb : TypeId}
    (hl : laidOutB P = true) (hvars : s.vars = []) (hp : (f.params.toList.all fun t => P.readableRec t && decide (t < P.types.size)) = true)
    (hrt : f.resultTypes = #[tb]) (htb : P.underlying tb = some .bool)
    (hres : (s.fn H (ds ++ gs)).results = [.lit (.bool true)]) (hargs : (s.fn H (ds ++ gs)).args = ds) (hv0 : (s.fn H (ds ++ gs)).vars = [])
    (hW : DataW.Whole enc P f.params.toList s.vars apart W args.toList ds gs before) (hb : Below W.heap.size W W') :
    s.post enc P f apart fresh handsOn again W args (.bool true) W' := by
  have hlt := hW.lt
  have hW' := hW
  obtain ⟨p, q, h1, h2, rfl, hz, hn⟩ := hW'
  rw [hvars] at h2
  obtain ⟨hgs, rfl⟩ := trodVars_none h2
  rw [List.append_nil] at hlt hz hn
  have hr : ∀ (b : Nat) (sp : Nat → Bool) (hd : Bool), DataW.TrodAll enc P W' b sp hd f.resultTypes.toList ((Value.bool true).resultList f.resultTypes.size) [.lit (.bool true)] [] := fun b sp hd => by
    rw [hrt]
    exact trodAll_mk1 ⟨1, by simp [DataW.trod, htb, Value.cells]⟩
  refine ⟨ds, gs, p ++ [], [], p, [], hW, by rw [hres]; exact hr _ _ _, ?_, ?_, below_keptBut hb _, fun _ => ⟨?_, _, [], ([] ++ p) ++ [], ⟨[] ++ p, [], trodAll_append (trodAll_stay hl hb hp h1 hlt fun _ _ => rfl) (hr _ _ _), ?_, rfl, ?_, ?_⟩, ?_⟩⟩
  · rw [hargs]
    exact trodAll_stay hl hb hp h1 hlt fun x hx => by simpa using hlt x hx
  · rw [hv0, hvars]; rfl
  · exact ok_one hrt rfl (okWide_bool_mk htb true)
  · rw [hvars]; rfl
  · intro b off hm
    simp only [List.nil_append, List.append_nil] at hm
    have h3 := hlt _ hm
    have h4 := hz b off hm
    unfold World.frozen? at h4 ⊢
    rw [hb.block b h3]
    exact h4
  · intro ha
    simpa using hn ha
  · intro x hx _
    simpa using hx

/-- The contract of a law, as its statement wants it. -/
theorem law_true {f : FuncId} {fn : Func} {s : ChangeSpec} {apart fresh handsOn again : Bool} {args : Array Value} {avs : List AV} {ds gs : List (DataW H)} {before : List MemPlace} {tb : TypeId}
    (hok : E.Ok) (hG : ∀ g, E.G g = .any)
    (hl : laidOutB E.P = true) (hvars : s.vars = []) (hp : (fn.params.toList.all fun t => E.P.readableRec t && decide (t < E.P.types.size)) = true)
    (hrt : fn.resultTypes = #[tb]) (htb : E.P.underlying tb = some .bool)
    (hres : (s.fn H (ds ++ gs)).results = [.lit (.bool true)]) (hargs : (s.fn H (ds ++ gs)).args = ds) (hv0 : (s.fn H (ds ++ gs)).vars = [])
    (hW : DataW.Whole enc E.P fn.params.toList s.vars apart W args.toList ds gs before)
    (hX : ∀ b, ¬ E.X b) (hr : E.RelL [] W avs args.toList) (hc : ACalls E f avs [] (fun r H' => r = .bool true ∧ H' = [])) :
    Calls E.P f args W fun e W' => ∃ v, e = .returned v ∧ s.post enc E.P fn apart fresh handsOn again W args v W' := by
  have hsim : E.Sim [] W [] := ⟨rfl, fun _ _ h => by simp at h, fun _ h => by simp at h, fun _ _ _ h => by simp at h, fun b hb => absurd hb (hX b), fun b hb => absurd hb (by simp)⟩
  have h := hc.2 [] W args.toList hok (fun g => by rw [hG]; simp [Abs.Rel]) hr hsim
  rw [Array.toArray_toList] at h
  refine h.mono ?_
  rintro e W' ⟨v, m', r, H', rfl, hext, hrel, _, rfl, _⟩
  simp only [Abs.Rel] at hrel
  subst hrel
  exact ⟨_, rfl, post_true hl hvars hp hrt htb hres hargs hv0 hW ⟨hext.os, hext.tape, hext.output, hext.size, fun k hk => hext.keep k hk (by simp)⟩⟩
end
end Go.Abs
