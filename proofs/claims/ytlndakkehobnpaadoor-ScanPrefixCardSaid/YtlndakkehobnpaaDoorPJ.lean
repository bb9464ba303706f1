/- ScanRound: the walk. Joined texts, each with what its own name promises; no condition beyond those stated. -/
import Derived.Test.YtlndakkehobnpaaDoorPH
namespace Go.Abs
/-- What is kept between the calls on the open region of the program, with the records that were appended. -/
structure PI (L : Nat) (h : Hd) (l : La) (F seq : Nat) (v : Dv) (s : List UInt8) (t : Nat) (ls : List (Nat × Rec)) : Prop where
  lv : Lv L v
  rg : RgI v.image L h F seq s t
  tt : t = s.length / 59
  cap : (s.length : Int) ≤ (l.rs - 1) * 59
  st : Strm l.ver seq s ls
theorem PI.app {L : Nat} {h : Hd} {l : La} {F seq : Nat} {v : Dv} {s : List UInt8} {t : Nat} {ls : List (Nat × Rec)} (w : PI L h l F seq v s t ls) {r : Rec} (hc : chkR l.ver r = 0) (hl : (s.length : Int) + (lenR r : Int) ≤ (l.rs - 1) * 59) {n : Nat} (hn : t + n = (s ++ encR l.ver seq s.length r).length / 59) (hFL : (F + 1 + (s ++ encR l.ver seq s.length r).length / 59) * 64 ≤ L) :
    PI L h l F seq (dfN v F seq (s ++ encR l.ver seq s.length r) t n) (s ++ encR l.ver seq s.length r) (t + n) (ls ++ [(s.length, r)]) where
  lv := w.lv.df n (by omega)
  rg := (w.rg.more (encR l.ver seq s.length r)).frames n (by omega) (by omega)
  tt := hn
  cap := by rw [List.length_append, encR_len]; omega
  st := w.st.app r hc
theorem PI.sync {L : Nat} {h : Hd} {l : La} {F seq : Nat} {v : Dv} {s : List UInt8} {t : Nat} {ls : List (Nat × Rec)} (w : PI L h l F seq v s t ls) {n : Nat} (hn : t + n = (padS s).length / 59) (hFL : (F + 1 + (padS s).length / 59) * 64 ≤ L) :
    PI L h l F seq { dfN v F seq (padS s) t n with old := [] } (padS s) (t + n) ls where
  lv := (w.lv.df n (by omega)).clean
  rg := w.rg.padS.frames n (by omega) (by omega)
  tt := hn
  cap := pad_cap w.cap
  st := w.st.pad
theorem strm_keys {ver : Int} {seq : Nat} {s : List UInt8} {ls : List (Nat × Rec)} (h : Strm ver seq s ls) : ∀ p ∈ ls, p.2.key.length ≤ 1073741824 ∧ p.2.val.length ≤ 1073741824 := fun p hp => by
  have h1 := rec_ok (h.mem_le p hp)
  have := h1.keyle
  have := h1.val
  omega
def h3 (l : La) : Hd := ⟨l.ver, 3, l.id, 4, 4, 0⟩
def foR (ls : List (Nat × Rec)) : AO := .arr (ls.map foA) 88
theorem hok_rgw (v : Dv) (h : Hd) (l : La) (F seq : Nat) (s : List UInt8) (t : Nat) (ls : List (Nat × Rec)) : HOk 7 (rgH v h l F seq s t ++ [some (foR ls)]) := fun j o ho => by
  match j, ho with
  | 0, ho => cases ho; exact ⟨by simp [IdsLt], by simp [IdsLt], trivial, trivial, trivial, trivial⟩
  | 1, ho => cases ho; exact idsL_map fun _ => u8A_ids
  | 2, ho => cases ho; exact ⟨by rw [List.map_map]; exact idsL_map fun _ => trivial, by rw [List.map_map]; exact idsL_map fun p => (idsL_map (f := u8A) fun _ => u8A_ids : IdsLtL _ (p.2.map u8A))⟩
  | 3, ho => cases ho; exact ⟨by simp [IdsLt], trivial, trivial, trivial, trivial, trivial, trivial, by simp [IdsLt], trivial⟩
  | 4, ho => cases ho; exact ⟨trivial, trivial, trivial, trivial, trivial, trivial, by simp [IdsLt], trivial, trivial⟩
  | 5, ho => cases ho; exact idsL_map fun _ => u8A_ids
  | 6, ho => cases ho; exact idsL_map fun _ => foA_ids
theorem new_at2 (X : Nat → Prop) (n : Nat) (h1 : 1 ≤ n) (h2 : n ≤ 1048576) : ACalls (E0 X) 19 [.int .i64 (n : Int)] [] (fun r H' => r = .ptr 0 0 ∧ H' = devH (Dv.fresh (List.replicate (n * 64) 0))) := (new_c X n).mono fun r H' h => by
  rcases h with ⟨_, _, h1, h2⟩ | ⟨h1, _⟩
  · exact ⟨h1, by rw [h2]; simp⟩
  · exact absurd ⟨by omega, by omega⟩ h1
theorem lv_new2 (n : Nat) (h : 1 ≤ n) (h2 : n ≤ 1000) : Lv (n * 64) (Dv.fresh (List.replicate (n * 64) 0)) :=
  ⟨inv_fresh (by simp only [List.length_replicate]; exact ⟨by omega, by omega, by omega⟩), rfl, rfl, by simp [Dv.fresh]⟩
attribute [local irreducible] AStep aops AWp Nx awM
end Go.Abs
namespace Go.Proofs.YtlndakkehobnpaaDoor
open Go.Abs Go.RowKit Go.ChangeShapes Go.WideShapes
end Go.Proofs.YtlndakkehobnpaaDoor

