/- In each truth the factor of a surface lies in its span, and is not below the least factor: plain. -/
import Derived.Test.YtkenokpobbichaaBK
import Derived.Test.YtkenokpobbichaaBI
import Derived.Test.YtkenokpobbichaaBD
import Derived.Test.YtkenokpobbichaaAJ
import Derived.Test.YtkenokpobbichaaAH2
namespace Go.Proofs.Ytkenokpobbichaa
open Go.RowKit Go.Shelf Go.Deep

theorem hK_le {bs : List Bd} {tr tr' : Nat → Rl} : ∀ k, (∀ i, i < k → holdsN (bs.getD i zeroBd) (tr i) ≤ holdsN (bs.getD i zeroBd) (tr' i)) → hK bs tr k ≤ hK bs tr' k
  | 0, _ => Int.le_refl _
  | k + 1, h => by
    have h1 := hK_le (bs := bs) (tr := tr) (tr' := tr') k (fun i hi => h i (by omega))
    have h2 := h k (by omega)
    simp only [hK]
    omega
theorem hK_eq {bs : List Bd} {tr tr' : Nat → Rl} (k : Nat) (h : ∀ i, i < k → tr i = tr' i) : hK bs tr k = hK bs tr' k :=
  Int.le_antisymm (hK_le k (fun i hi => by rw [h i hi]; exact Int.le_refl _)) (hK_le k (fun i hi => by rw [h i hi]; exact Int.le_refl _))
theorem ends_get {bs : List Bd} {hi : Bool} {i : Nat} (h : i < bs.length) : (bs.map (endR hi)).getD i ⟨0, 0, 0⟩ = endR hi (bs.getD i zeroBd) := by
  obtain ⟨b, hb⟩ := get_of_lt h
  simp [List.getD, hb]
theorem ends_fit {bs : List Bd} (hb : ∀ b ∈ bs, bdB b = true) (hi : Bool) : fitsA bs (bs.map (endR hi)) = true := by
  refine fitsA_iff.2 ⟨by rw [List.length_map], fun i h => ?_⟩
  obtain ⟨b, hb2⟩ := get_of_lt h
  rw [ends_get h]
  have hge : bs.getD i zeroBd = b := by simp [List.getD, hb2]
  rw [hge]
  exact fit_end (hb b (List.mem_of_getElem? hb2)) hi
theorem fits_hK {bs : List Bd} (hb : ∀ b ∈ bs, bdB b = true) {tl : List Rl} (hf : fitsA bs tl = true) : hK bs (fun i => endR false (bs.getD i zeroBd)) bs.length ≤ hK bs (fun i => tl.getD i ⟨0, 0, 0⟩) bs.length ∧ hK bs (fun i => tl.getD i ⟨0, 0, 0⟩) bs.length ≤ hK bs (fun i => endR true (bs.getD i zeroBd)) bs.length := by
  have h := (fitsA_iff.1 hf).2
  have h1 : ∀ i, i < bs.length → bdB (bs.getD i zeroBd) = true := fun i hi => by
    obtain ⟨b, hb2⟩ := get_of_lt hi
    have hge : bs.getD i zeroBd = b := by simp [List.getD, hb2]
    rw [hge]
    exact hb b (List.mem_of_getElem? hb2)
  exact ⟨hK_le _ (fun i hi => (fit_mono (h1 i hi) (h i hi)).1), hK_le _ (fun i hi => (fit_mono (h1 i hi) (h i hi)).2)⟩
theorem hK_nonneg {bs : List Bd} (hb : ∀ b ∈ bs, bdB b = true) (hi : Bool) : 0 ≤ hK bs (fun i => endR hi (bs.getD i zeroBd)) bs.length :=
  (hK_bd (l := bs) (tr := fun i => endR hi (bs.getD i zeroBd)) bs.length (Nat.le_refl _) hb (fun i hi2 => by
    obtain ⟨b, hb2⟩ := get_of_lt hi2
    have e : bs.getD i zeroBd = b := by simp [List.getD, hb2]
    rw [e]
    exact end_rlB (hb b (List.mem_of_getElem? hb2)) hi)).1
/-- What is known of the surface that a law plays: its span, its factors, and the least factor of the slope. -/
structure SurfK (s : Sd) (frm : Int) (l : List Int) (e r0 r1 : Int) : Prop where
  ck : checkUN s frm l = 0
  sp : spanE s frm l = e ∧ spanP s frm l false = r0 ∧ spanP s frm l true = r1
  fit : ∀ tl, fitsA (bedsU s frm l) tl = true → (e = 7 → facO s frm l tl = (0, 7)) ∧ (e = 0 → (facO s frm l tl).2 = 0 ∧ r0 ≤ (facO s frm l tl).1 ∧ (facO s frm l tl).1 ≤ r1)
  ends : e = 0 → facO s frm l ((bedsU s frm l).map (endR false)) = (r0, 0) ∧ facO s frm l ((bedsU s frm l).map (endR true)) = (r1, 0)
  low : e = 0 → wE s = 0 ∧ wV s ≤ r0
  eor : e = 7 ∨ e = 0
theorem surf_known {s : Sm} (hs : SdOk s.sd) {frm : Int} {l : List Int} {k0 : Nat} {m : List Nat} (hf : frm = (k0 : Nat)) (hl : l = m.map fun x : Nat => (x : Int)) (hsf : SurfB s.sd.n s.cs.length s.sd.K k0 m) : bedsU s.sd frm l = bedsL s.sd.cols k0 m ∧ ∃ e r0 r1, SurfK s.sd frm l e r0 r1 := by
  have hsf' : SurfB s.sd.n s.sd.cols.length s.sd.K k0 m := by rw [sd_len]; exact hsf
  have hck : checkUN s.sd frm l = 0 := by
    unfold checkUN
    rw [sdOk_iff.2 hs, hf, hl, (surfB_nat hs).2 hsf']
    rfl
  have eb : bedsU s.sd frm l = bedsL s.sd.cols k0 m := by
    unfold bedsU
    rw [hf, hl, List.map_map]
    have e1 : (Int.toNat ∘ fun x : Nat => (x : Int)) = id := by funext x; simp
    rw [e1, List.map_id, Int.toNat_natCast]
  refine ⟨eb, ?_⟩
  have hbo := bedsL_ok hs hsf.2.2 hsf.2.1
  have hbl := bedsL_len s.sd.cols m k0
  obtain ⟨bs, hbs⟩ : ∃ bs, bs = bedsL s.sd.cols k0 m := ⟨_, rfl⟩
  rw [← hbs] at eb hbo hbl
  have hfac : ∀ tl, fitsA bs tl = true → facO s.sd frm l tl = if dK bs bs.length < 1 then (0, 7) else (factorN (hK bs (fun i => tl.getD i ⟨0, 0, 0⟩) bs.length) (dK bs bs.length), 0) := fun tl h => by
    unfold facO
    rw [hck, if_pos rfl, eb, if_pos h]
  by_cases hd : dK bs bs.length < 1
  · have he : spanE s.sd frm l = 7 := by unfold spanE; rw [hck, if_pos rfl, eb, if_pos hd]
    have hp : ∀ hi, spanP s.sd frm l hi = 0 := fun hi => by unfold spanP; rw [he, if_neg (by decide)]
    exact ⟨7, 0, 0, hck, ⟨he, hp _, hp _⟩, fun tl h => ⟨fun _ => by rw [hfac tl (by rw [eb] at h; exact h), if_pos hd], fun h => absurd h (by decide)⟩, fun h => absurd h (by decide), fun h => absurd h (by decide), .inl rfl⟩
  · have he : spanE s.sd frm l = 0 := by unfold spanE; rw [hck, if_pos rfl, eb, if_neg hd]
    have hp : ∀ hi, spanP s.sd frm l hi = facE bs hi := fun hi => by unfold spanP; rw [he, if_pos rfl, eb]
    have hend : ∀ hi, facO s.sd frm l (bs.map (endR hi)) = (facE bs hi, 0) := fun hi => by
      rw [hfac _ (ends_fit hbo hi), if_neg hd]
      unfold facE
      rw [hK_eq bs.length (fun i h => ends_get h)]
    refine ⟨0, facE bs false, facE bs true, hck, ⟨he, hp _, hp _⟩, fun tl h => ⟨fun h => absurd h (by decide), fun _ => ?_⟩, fun _ => by rw [eb]; exact ⟨hend _, hend _⟩, fun _ => ?_, .inr rfl⟩
    · rw [eb] at h
      rw [hfac tl h, if_neg hd]
      have h1 := fits_hK hbo h
      have h2 := hK_nonneg hbo false
      exact ⟨rfl, factor_le h2 h1.1 (by omega) (Int.le_refl _), factor_le (by omega) h1.2 (by omega) (Int.le_refl _)⟩
    · have hd2 : 1 ≤ sumH (dAt s.sd) k0 m := by rw [← dK_sum, ← hbs, ← hbl]; omega
      have hfe : facE bs false = factorN (sumH (hAt false s.sd) k0 m) (sumH (dAt s.sd) k0 m) := by
        unfold facE
        rw [hbl, hbs, hK_sum, dK_sum]
      rcases worst_of _ (rfl : worstS s.sd = worstS s.sd) with ⟨h1, _, _⟩ | ⟨⟨k, l'⟩, v, h1, h2, h3⟩
      · exact absurd hd2 (worst_none (hd_ok hs false) h1 k0 m hsf')
      · refine ⟨h2, ?_⟩
        rw [h3, hfe]
        exact (worst_some (hd_ok hs false) h1).2.2.2 k0 m hsf' hd2

end Go.Proofs.Ytkenokpobbichaa
