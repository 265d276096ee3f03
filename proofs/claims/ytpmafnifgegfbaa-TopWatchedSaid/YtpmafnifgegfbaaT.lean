/- A look at a survey with some turns. -/
import Derived.Test.YtpmafnifgegfbaaS
import Derived.Maps.OwnIn
import Derived.Maps.OwnSet
namespace Go.Proofs.Ytpmafnifgegfbaa
open Go.RowKit Go.Shelf Go.Deep

open Go.ChangeMaps (setBlock)
/-- The world in which the looking begins. -/
abbrev wAt (y : Sm) (ka : Option Addr) (n kc : Nat) (w : World) : World := (((w.alloc (.cells (smC y) 40)).alloc (.cells (lkC y ka n kc (.slice none 0 0)) 126)).alloc (.cells #[.pointer (some ⟨w.heap.size + 1, 0, none⟩)] 120)).alloc (.cells #[mayV w.heap.size] 159)
theorem at_start (y : Sm) (ks : List (Option Int)) (ka : Option Addr) (kc : Nat) (w : World) : AtL y ks ka kc w.heap.size 0 y.s.spots.length (fwS y.s ks) [] [] none 0 w (wAt y ka ks.length kc w) := by
  have h1 : newer w (wAt y ka ks.length kc w) := newer_trans (newer_trans (newer_trans (newer_allocH _ _) (newer_allocH _ _)) (newer_allocH _ _)) (newer_allocH _ _)
  have at_ : ∀ i o, (w.heap ++ #[.cells (smC y) 40, .cells (lkC y ka ks.length kc (.slice none 0 0)) 126, .cells #[.pointer (some ⟨w.heap.size + 1, 0, none⟩)] 120, .cells #[mayV w.heap.size] 159])[w.heap.size + i]? = some o → (wAt y ka ks.length kc w).heap[w.heap.size + i]? = some o := by
    intro i o h
    rw [← h]
    rfl
  have get : ∀ (i : Nat) (o : Obj) (l : Array Obj), l[i]? = some o → (w.heap ++ l)[w.heap.size + i]? = some o := by
    intro i o l h
    rw [Array.getElem?_append_right (by omega), Nat.add_sub_cancel_left]
    exact h
  exact ⟨h1, at_ 0 _ (get 0 _ _ rfl), at_ 1 _ (get 1 _ _ rfl), at_ 2 _ (get 2 _ _ rfl), at_ 3 _ (get 3 _ _ rfl), ⟨rfl, .inl ⟨rfl, rfl⟩⟩, rfl, fun j m h => by simp at h, fun m h => by simp at h, fun m h => by simp at h, List.nodup_nil, ⟨List.nodup_nil, fun D h => by simp at h⟩, fun D h => by simp at h, rfl⟩
structure AtQ (y : Sm) (ks : List (Option Int)) (ka : Option Addr) (kc i : Nat) (ms Ds : List Nat) (A : Option Addr) (c : Nat) (w W : World) : Prop where
  at_ : AtL y ks ka kc w.heap.size i y.s.spots.length (fwS y.s ks) ms Ds A c w W
  ne : ∀ j, j < i → fwS y.s ks j ≠ []
  dl : Ds.length = i
  le : i ≤ y.s.spots.length
/-- What the first loop's rounds hold. -/
def AtR (y : Sm) (ks : List (Option Int)) (ka : Option Addr) (kc : Nat) (w : World) (a : Act) (W : World) : Prop := ∃ (i : Nat) (ms Ds : List Nat) (A : Option Addr) (c : Nat) (zs : Nat → Value), a = { tmps := List.toArray (List.cons (smV y) (List.cons (.slice ka ks.length kc) (List.cons (.pointer (some ⟨w.heap.size, 0, none⟩)) (List.cons (zs 3) (List.cons (.pointer none) (List.cons (.bool false) (List.cons (.pointer (some ⟨(w.heap.size + 1 + 1), 0, none⟩)) (List.cons (.pointer (some ⟨(w.heap.size + 1 + 1 + 1), 0, none⟩)) (List.cons (zs 8) (List.cons (zs 9) (List.cons (zs 10) (List.cons (zs 11) (List.cons (zs 12) (List.cons (zs 13) (List.cons (zs 14) (List.cons (zs 15) (List.cons (zs 16) (List.cons (zs 17) (List.cons (zs 18) (List.cons (zs 19) (List.cons (zs 20) (List.cons (.slice y.sa y.s.spots.length y.sc) (List.cons (vi y.s.spots.length) (List.cons (vi i) (List.cons (zs 24) (List.cons (zs 25) (List.cons (zs 26) (List.cons (zs 27) (List.cons (zs 28) (List.cons (zs 29) (List.cons (zs 30) (List.cons (zs 31) (List.cons (zs 32) (List.cons (zs 33) (List.cons (zs 34) (List.cons (zs 35) (List.cons (zs 36) (List.cons (zs 37) (List.cons (zs 38) (List.cons (zs 39) (List.cons (zs 40) (List.cons (zs 41) (List.cons (zs 42) (List.cons (zs 43) (List.cons (zs 44) (List.cons (zs 45) (List.cons (zs 46) (List.cons (zs 47) (List.cons (zs 48) (List.cons (zs 49) (List.cons (zs 50) (List.cons (zs 51) (List.cons (zs 52) (List.cons (zs 53) (List.cons (zs 54) (List.cons (zs 55) (List.cons (zs 56) (List.cons (zs 57) (List.cons (zs 58) (List.cons (zs 59) (List.cons (zs 60) (List.cons (zs 61) (List.cons (zs 62) (List.cons (zs 63) (List.cons (zs 64) (List.cons (zs 65) (List.cons (zs 66) (List.cons (zs 67) (List.cons (zs 68) (List.cons (zs 69) (List.cons (zs 70) (List.cons (zs 71) (List.cons (zs 72) (List.cons (zs 73) (List.cons (zs 74) (List.cons (zs 75) (List.cons (zs 76) (List.cons (zs 77) (List.cons (zs 78) (List.cons (zs 79) (List.cons (zs 80) (List.cons (zs 81) (List.cons (zs 82) (List.cons (zs 83) (List.cons (zs 84) (List.cons (zs 85) (List.cons (zs 86) (List.cons (zs 87) (List.cons (zs 88) (List.cons (zs 89) (List.cons (zs 90) (List.cons (zs 91) (List.cons (zs 92) (List.cons (zs 93) (List.cons (zs 94) (List.cons (zs 95) (List.cons (zs 96) (List.cons (zs 97) (List.cons (zs 98) (List.cons (zs 99) (List.cons (zs 100) (List.cons (zs 101) (List.cons (zs 102) (List.cons (zs 103) (List.cons (zs 104) (List.cons (zs 105) (List.cons (zs 106) (List.cons (zs 107) (List.cons (zs 108) (List.cons (zs 109) (List.cons (zs 110) (List.cons (zs 111) (List.cons (zs 112) (List.nil)))))))))))))))))))))))))))))))))))))))))))))))))))))))))))))))))))))))))))))))))))))))))))))))))))))))))))))))))), defers := Ds.map markD } ∧ AtQ y ks ka kc i ms Ds A c w W
theorem AtR.elim {y : Sm} {ks : List (Option Int)} {ka : Option Addr} {kc : Nat} {w : World} {a : Act} {W : World} (h : AtR y ks ka kc w a W) {C : Act → World → Prop}
    (hc : ∀ (i : Nat) (ms Ds : List Nat) (A : Option Addr) (c : Nat) (z3 z8 z9 z10 z11 z12 z13 z14 z15 z16 z17 z18 z19 z20 z24 z25 z26 z27 z28 z29 z30 z31 z32 z33 z34 z35 z36 z37 z38 z39 z40 z41 z42 z43 z44 z45 z46 z47 z48 z49 z50 z51 z52 z53 z54 z55 z56 z57 z58 z59 z60 z61 z62 z63 z64 z65 z66 z67 z68 z69 z70 z71 z72 z73 z74 z75 z76 z77 z78 z79 z80 z81 z82 z83 z84 z85 z86 z87 z88 z89 z90 z91 z92 z93 z94 z95 z96 z97 z98 z99 z100 z101 z102 z103 z104 z105 z106 z107 z108 z109 z110 z111 z112 : Value), AtQ y ks ka kc i ms Ds A c w W → a.defers.length = Ds.length → C { tmps := List.toArray (List.cons (smV y) (List.cons (.slice ka ks.length kc) (List.cons (.pointer (some ⟨w.heap.size, 0, none⟩)) (List.cons (z3) (List.cons (.pointer none) (List.cons (.bool false) (List.cons (.pointer (some ⟨(w.heap.size + 1 + 1), 0, none⟩)) (List.cons (.pointer (some ⟨(w.heap.size + 1 + 1 + 1), 0, none⟩)) (List.cons (z8) (List.cons (z9) (List.cons (z10) (List.cons (z11) (List.cons (z12) (List.cons (z13) (List.cons (z14) (List.cons (z15) (List.cons (z16) (List.cons (z17) (List.cons (z18) (List.cons (z19) (List.cons (z20) (List.cons (.slice y.sa y.s.spots.length y.sc) (List.cons (vi y.s.spots.length) (List.cons (vi i) (List.cons (z24) (List.cons (z25) (List.cons (z26) (List.cons (z27) (List.cons (z28) (List.cons (z29) (List.cons (z30) (List.cons (z31) (List.cons (z32) (List.cons (z33) (List.cons (z34) (List.cons (z35) (List.cons (z36) (List.cons (z37) (List.cons (z38) (List.cons (z39) (List.cons (z40) (List.cons (z41) (List.cons (z42) (List.cons (z43) (List.cons (z44) (List.cons (z45) (List.cons (z46) (List.cons (z47) (List.cons (z48) (List.cons (z49) (List.cons (z50) (List.cons (z51) (List.cons (z52) (List.cons (z53) (List.cons (z54) (List.cons (z55) (List.cons (z56) (List.cons (z57) (List.cons (z58) (List.cons (z59) (List.cons (z60) (List.cons (z61) (List.cons (z62) (List.cons (z63) (List.cons (z64) (List.cons (z65) (List.cons (z66) (List.cons (z67) (List.cons (z68) (List.cons (z69) (List.cons (z70) (List.cons (z71) (List.cons (z72) (List.cons (z73) (List.cons (z74) (List.cons (z75) (List.cons (z76) (List.cons (z77) (List.cons (z78) (List.cons (z79) (List.cons (z80) (List.cons (z81) (List.cons (z82) (List.cons (z83) (List.cons (z84) (List.cons (z85) (List.cons (z86) (List.cons (z87) (List.cons (z88) (List.cons (z89) (List.cons (z90) (List.cons (z91) (List.cons (z92) (List.cons (z93) (List.cons (z94) (List.cons (z95) (List.cons (z96) (List.cons (z97) (List.cons (z98) (List.cons (z99) (List.cons (z100) (List.cons (z101) (List.cons (z102) (List.cons (z103) (List.cons (z104) (List.cons (z105) (List.cons (z106) (List.cons (z107) (List.cons (z108) (List.cons (z109) (List.cons (z110) (List.cons (z111) (List.cons (z112) (List.nil)))))))))))))))))))))))))))))))))))))))))))))))))))))))))))))))))))))))))))))))))))))))))))))))))))))))))))))))))), defers := Ds.map markD } W) : C a W := by
  obtain ⟨i, ms, Ds, A, c, zs, rfl, hJ⟩ := h
  exact hc _ _ _ _ _ _ _ _ _ _ _ _ _ _ _ _ _ _ _ _ _ _ _ _ _ _ _ _ _ _ _ _ _ _ _ _ _ _ _ _ _ _ _ _ _ _ _ _ _ _ _ _ _ _ _ _ _ _ _ _ _ _ _ _ _ _ _ _ _ _ _ _ _ _ _ _ _ _ _ _ _ _ _ _ _ _ _ _ _ _ _ _ _ _ _ _ _ _ _ _ _ _ _ _ _ _ _ _ hJ (by simp)
theorem AtR.intro {y : Sm} {ks : List (Option Int)} {ka : Option Addr} {kc : Nat} {w : World} {W : World} (i : Nat) (ms Ds : List Nat) (A : Option Addr) (c : Nat) (z3 z8 z9 z10 z11 z12 z13 z14 z15 z16 z17 z18 z19 z20 z24 z25 z26 z27 z28 z29 z30 z31 z32 z33 z34 z35 z36 z37 z38 z39 z40 z41 z42 z43 z44 z45 z46 z47 z48 z49 z50 z51 z52 z53 z54 z55 z56 z57 z58 z59 z60 z61 z62 z63 z64 z65 z66 z67 z68 z69 z70 z71 z72 z73 z74 z75 z76 z77 z78 z79 z80 z81 z82 z83 z84 z85 z86 z87 z88 z89 z90 z91 z92 z93 z94 z95 z96 z97 z98 z99 z100 z101 z102 z103 z104 z105 z106 z107 z108 z109 z110 z111 z112 : Value) (hJ : AtQ y ks ka kc i ms Ds A c w W) : AtR y ks ka kc w { tmps := List.toArray (List.cons (smV y) (List.cons (.slice ka ks.length kc) (List.cons (.pointer (some ⟨w.heap.size, 0, none⟩)) (List.cons (z3) (List.cons (.pointer none) (List.cons (.bool false) (List.cons (.pointer (some ⟨(w.heap.size + 1 + 1), 0, none⟩)) (List.cons (.pointer (some ⟨(w.heap.size + 1 + 1 + 1), 0, none⟩)) (List.cons (z8) (List.cons (z9) (List.cons (z10) (List.cons (z11) (List.cons (z12) (List.cons (z13) (List.cons (z14) (List.cons (z15) (List.cons (z16) (List.cons (z17) (List.cons (z18) (List.cons (z19) (List.cons (z20) (List.cons (.slice y.sa y.s.spots.length y.sc) (List.cons (vi y.s.spots.length) (List.cons (vi i) (List.cons (z24) (List.cons (z25) (List.cons (z26) (List.cons (z27) (List.cons (z28) (List.cons (z29) (List.cons (z30) (List.cons (z31) (List.cons (z32) (List.cons (z33) (List.cons (z34) (List.cons (z35) (List.cons (z36) (List.cons (z37) (List.cons (z38) (List.cons (z39) (List.cons (z40) (List.cons (z41) (List.cons (z42) (List.cons (z43) (List.cons (z44) (List.cons (z45) (List.cons (z46) (List.cons (z47) (List.cons (z48) (List.cons (z49) (List.cons (z50) (List.cons (z51) (List.cons (z52) (List.cons (z53) (List.cons (z54) (List.cons (z55) (List.cons (z56) (List.cons (z57) (List.cons (z58) (List.cons (z59) (List.cons (z60) (List.cons (z61) (List.cons (z62) (List.cons (z63) (List.cons (z64) (List.cons (z65) (List.cons (z66) (List.cons (z67) (List.cons (z68) (List.cons (z69) (List.cons (z70) (List.cons (z71) (List.cons (z72) (List.cons (z73) (List.cons (z74) (List.cons (z75) (List.cons (z76) (List.cons (z77) (List.cons (z78) (List.cons (z79) (List.cons (z80) (List.cons (z81) (List.cons (z82) (List.cons (z83) (List.cons (z84) (List.cons (z85) (List.cons (z86) (List.cons (z87) (List.cons (z88) (List.cons (z89) (List.cons (z90) (List.cons (z91) (List.cons (z92) (List.cons (z93) (List.cons (z94) (List.cons (z95) (List.cons (z96) (List.cons (z97) (List.cons (z98) (List.cons (z99) (List.cons (z100) (List.cons (z101) (List.cons (z102) (List.cons (z103) (List.cons (z104) (List.cons (z105) (List.cons (z106) (List.cons (z107) (List.cons (z108) (List.cons (z109) (List.cons (z110) (List.cons (z111) (List.cons (z112) (List.nil)))))))))))))))))))))))))))))))))))))))))))))))))))))))))))))))))))))))))))))))))))))))))))))))))))))))))))))))))), defers := Ds.map markD } W :=
  ⟨i, ms, Ds, A, c, fun i => slotOf { tmps := List.toArray (List.cons (smV y) (List.cons (.slice ka ks.length kc) (List.cons (.pointer (some ⟨w.heap.size, 0, none⟩)) (List.cons (z3) (List.cons (.pointer none) (List.cons (.bool false) (List.cons (.pointer (some ⟨(w.heap.size + 1 + 1), 0, none⟩)) (List.cons (.pointer (some ⟨(w.heap.size + 1 + 1 + 1), 0, none⟩)) (List.cons (z8) (List.cons (z9) (List.cons (z10) (List.cons (z11) (List.cons (z12) (List.cons (z13) (List.cons (z14) (List.cons (z15) (List.cons (z16) (List.cons (z17) (List.cons (z18) (List.cons (z19) (List.cons (z20) (List.cons (.slice y.sa y.s.spots.length y.sc) (List.cons (vi y.s.spots.length) (List.cons (vi i) (List.cons (z24) (List.cons (z25) (List.cons (z26) (List.cons (z27) (List.cons (z28) (List.cons (z29) (List.cons (z30) (List.cons (z31) (List.cons (z32) (List.cons (z33) (List.cons (z34) (List.cons (z35) (List.cons (z36) (List.cons (z37) (List.cons (z38) (List.cons (z39) (List.cons (z40) (List.cons (z41) (List.cons (z42) (List.cons (z43) (List.cons (z44) (List.cons (z45) (List.cons (z46) (List.cons (z47) (List.cons (z48) (List.cons (z49) (List.cons (z50) (List.cons (z51) (List.cons (z52) (List.cons (z53) (List.cons (z54) (List.cons (z55) (List.cons (z56) (List.cons (z57) (List.cons (z58) (List.cons (z59) (List.cons (z60) (List.cons (z61) (List.cons (z62) (List.cons (z63) (List.cons (z64) (List.cons (z65) (List.cons (z66) (List.cons (z67) (List.cons (z68) (List.cons (z69) (List.cons (z70) (List.cons (z71) (List.cons (z72) (List.cons (z73) (List.cons (z74) (List.cons (z75) (List.cons (z76) (List.cons (z77) (List.cons (z78) (List.cons (z79) (List.cons (z80) (List.cons (z81) (List.cons (z82) (List.cons (z83) (List.cons (z84) (List.cons (z85) (List.cons (z86) (List.cons (z87) (List.cons (z88) (List.cons (z89) (List.cons (z90) (List.cons (z91) (List.cons (z92) (List.cons (z93) (List.cons (z94) (List.cons (z95) (List.cons (z96) (List.cons (z97) (List.cons (z98) (List.cons (z99) (List.cons (z100) (List.cons (z101) (List.cons (z102) (List.cons (z103) (List.cons (z104) (List.cons (z105) (List.cons (z106) (List.cons (z107) (List.cons (z108) (List.cons (z109) (List.cons (z110) (List.cons (z111) (List.cons (z112) (List.nil)))))))))))))))))))))))))))))))))))))))))))))))))))))))))))))))))))))))))))))))))))))))))))))))))))))))))))))))))), defers := [] } i, rfl, hJ⟩
theorem info_map : (Try.prog.info? 128).map (fun i => (i.zero, i.size, i.bytes)) = some (some (.map none), 1, 8) := by kernel_rfl
theorem mv_eq (a b : Mv) (W : World) : (Op.equal 116 (mvV a) (mvV b)).run Try.prog W = .ok (decide (a = b)) W := by
  obtain ⟨a1, a2⟩ := a
  obtain ⟨b1, b2⟩ := b
  have e : decide ((a1, a2) = (b1, b2)) = (a1 == b1 && a2 == b2) := by
    rw [Bool.eq_iff_iff]
    simp
  rw [e]
  simp [Op.equal, Op.maxDepth, go_sem]
  by_cases h1 : a1 = b1 <;> by_cases h2 : a2 = b2 <;> simp [h1, h2]
theorem mv_check (c : Bool) (a : Mv) (W : World) : (Instr.checkKey c 10000 116 (mvV a)).run Try.prog W = .ok () W := by
  have h : ∀ n, (Instr.checkKey c (n + 2) 116 (mvV a)).run Try.prog W = .ok () W := by
    intro n
    simp [Instr.checkKey, run_underlying Try.underlying116, run_underlying Try.underlying3, go_sem]
  exact h 9998
theorem mv_bits (a : Mv) : Instr.sameBits 10000 (mvV a) (mvV a) = true := spot_bits a
theorem mv_key : EqKey Try.prog 116 mvV := ⟨mv_eq, mv_check, mv_bits, _, Try.underlying116⟩
/-- A row with one element more. -/
def vOnG (base e : Nat) (A : Option Addr) (n c : Nat) (xs : List Value) (y : Value) (w : World) (v : Value) (W : World) : Prop := ∃ g c', v = .slice (some ⟨g, 0, none⟩) (n + 1) c' ∧ W.ownsRow base e 1 (.slice (some ⟨g, 0, none⟩) (n + 1) c') (n + 1) (xs ++ [y]) ∧ Onto1 A c g c' w W
theorem vOnG_st {base e : Nat} {A : Option Addr} {n c : Nat} {xs : List Value} {y : Value} {w : World} : ∀ v W W', vOnG base e A n c xs y w v W → newer W W' → vOnG base e A n c xs y w v W' := fun _ _ _ ⟨g, c', h1, h2, h3⟩ hb => ⟨g, c', h1, own_below h2 hb, h3.next hb⟩
/-- One set more. -/
theorem AtL.add {y : Sm} {ks : List (Option Int)} {ka : Option Addr} {kc b i x : Nat} {Ls : Nat → List Mv} {ms Ds : List Nat} {A : Option Addr} {c : Nat} {w we W : World} (h : AtL y ks ka kc b i x Ls ms Ds A c w we) (hix : i < x) {mb : Nat} (hm : KMap mvV trV mb (kvL (Ls i)) we) (hmb : b + 4 ≤ mb) (hmn : mb ∉ ms) (hmd : mb ∉ Ds) {g c2 : Nat}
    (hown : W.ownsRow (b + 4) 128 1 (.slice (some ⟨g, 0, none⟩) (i + 1) c2) (i + 1) (ms.flatMap mapL ++ [.map (some mb)])) (hon : Onto1 A c g c2 we W) :
    AtL y ks ka kc b (i + 1) x Ls (ms ++ [mb]) Ds (some ⟨g, 0, none⟩) c2 w (W.setCell ⟨b + 1, 6, none⟩ (.slice (some ⟨g, 0, none⟩) (i + 1) c2)) := by
  have hg : we.grownBy W (Value.slice A i c).ownBlock := hon.grown
  have ne : ∀ {q : Nat}, q < b + 4 → some q ≠ (Value.slice A i c).ownBlock := fun hq e => by have := own_ge h.ow _ e.symm; omega
  have k0 := h.b0.grown hg (ne (by omega))
  have k1 := h.lk.grown hg (ne (by omega))
  have k2 := h.xv.grown hg (ne (by omega))
  have k3 := h.fv.grown hg (ne (by omega))
  have hW : W.grownBy (W.setCell ⟨b + 1, 6, none⟩ (.slice (some ⟨g, 0, none⟩) (i + 1) c2)) (some (b + 1)) := grown_set (p := ⟨b + 1, 6, none⟩) (grown_refl W _) (.inl rfl) _
  have hgb : b + 4 ≤ g := own_ge hown g rfl
  have n0 : newer w W := by
    rcases Option.eq_none_or_eq_some (Value.slice A i c).ownBlock with e | ⟨q, e⟩
    · rw [e] at hg
      exact below_grown hg (fun q hq => by cases hq) h.nw.size |> fun k => h.nw.trans k
    · rw [e] at hg
      exact Below.trans h.nw (below_of_grown hg (by have := own_ge h.ow q e; rw [h.wb]; omega) h.nw.size)
  have mkm : ∀ (j m : Nat), (ms ++ [mb])[j]? = some m → KMap mvV trV m (kvL (Ls j)) W := fun j m hj => by
    by_cases hji : j < ms.length
    · rw [List.getElem?_append_left hji] at hj
      have h1 := h.mp j m hj (by have := h.ln; omega)
      exact h1.same (hg.block m h1.lt (fun e => own_map h.ow h1 e.symm))
    · have hjl := (List.getElem?_eq_some_iff.1 hj).1
      rw [List.length_append, List.length_singleton] at hjl
      obtain rfl : j = ms.length := by omega
      rw [List.getElem?_append_right (Nat.le_refl _), Nat.sub_self] at hj
      simp only [List.getElem?_cons_zero, Option.some.injEq] at hj
      subst hj
      rw [h.ln]
      exact hm.same (hg.block mb hm.lt (fun e => own_map h.ow hm e.symm))
  have mem : ∀ m ∈ ms ++ [mb], b + 4 ≤ m ∧ m < W.heap.size ∧ m ∉ Ds ∧ (Value.slice (some ⟨g, 0, none⟩) (i + 1) c2).ownBlock ≠ some m := fun m hmm => by
    obtain ⟨j, hj⟩ := List.mem_iff_getElem?.1 hmm
    have h1 := mkm j m hj
    refine ⟨?_, h1.lt, ?_, own_map hown h1⟩
    · rcases List.mem_append.1 hmm with hq | hq
      · exact (h.ml m hq).1
      · rw [List.mem_singleton.1 hq]; exact hmb
    · rcases List.mem_append.1 hmm with hq | hq
      · exact (h.md m hq).1
      · rw [List.mem_singleton.1 hq]; exact hmd
  refine ⟨Below.setCell n0 (p := ⟨b + 1, 6, none⟩) (by rw [h.wb]; show b ≤ b + 1; omega) _, k0.far (by show b ≠ b + 1; omega) _, ?_, k2.far (by show b + 1 + 1 ≠ b + 1; omega) _, k3.far (by show b + 1 + 1 + 1 ≠ b + 1; omega) _, ?_, by rw [List.length_append, h.ln]; rfl, fun j m hj _ => ?_, fun m hmm => ⟨(mem m hmm).1, ?_⟩, fun m hmm => (mem m hmm).2.2, ?_, ?_, h.dg, h.wb⟩
  · exact k1.set 6 _
  · have e : (ms ++ [mb]).flatMap mapL = ms.flatMap mapL ++ [.map (some mb)] := by simp [List.flatMap_append]
    rw [e]
    exact own_set hown (by intro e2; have e3 : g = b + 1 := by simpa [Value.ownBlock] using e2
                           omega) _
  · have h1 := mkm j m hj
    have h2 := (mem m (List.mem_of_getElem? hj)).1
    exact h1.same (hW.block m h1.lt (fun e => by injection e; omega))
  · exact Nat.lt_of_lt_of_le (mem m hmm).2.1 hW.size
  · rw [List.nodup_append]
    exact ⟨h.nd, by simp, fun x hx z hz e => hmn (by rw [← List.mem_singleton.1 hz, ← e]; exact hx)⟩
  · have hm2 : MarksOk Ds W := by
      rcases Option.eq_none_or_eq_some (Value.slice A i c).ownBlock with e | ⟨q, e⟩
      · rw [e] at hg
        exact ⟨h.mks.nd, fun D hD => (hg.block D (h.mks.lt D hD) (by simp)).trans (h.mks.at_ D hD)⟩
      · rw [e] at hg
        exact h.mks.grown hg (mark_own h.mks h.ow q e)
    exact hm2.grown hW (fun hm3 => by have := h.dg _ hm3; omega)
theorem kvL_snoc (L : List Mv) (m : Mv) : kvL L ++ [(m, ())] = kvL (L ++ [m]) := by unfold kvL; rw [List.map_append]; rfl
theorem take_yes {l : List Mv} {f : Mv → Bool} {k : Nat} {m : Mv} (h : l[k]? = some m) (hf : f m = true) : (l.take (k + 1)).filter f = (l.take k).filter f ++ [m] := by
  rw [List.take_add_one, h, List.filter_append, Option.toList_some, List.filter_cons_of_pos hf, List.filter_nil]
theorem take_no {l : List Mv} {f : Mv → Bool} {k : Nat} {m : Mv} (h : l[k]? = some m) (hf : f m = false) : (l.take (k + 1)).filter f = (l.take k).filter f := by
  rw [List.take_add_one, h, List.filter_append, Option.toList_some, List.filter_cons_of_neg (by rw [hf]; decide), List.filter_nil, List.append_nil]
theorem take_new {l : List Mv} (hn : l.Nodup) {f : Mv → Bool} {k : Nat} {m : Mv} (h : l[k]? = some m) : ∀ p ∈ kvL ((l.take k).filter f), m ≠ p.1 := by
  intro p hp e
  have h1 := (List.mem_filter.1 (kv_mem hp)).1
  rw [← e] at h1
  obtain ⟨j, hj⟩ := List.mem_iff_getElem?.1 h1
  rw [List.getElem?_take] at hj
  split at hj
  · rename_i hjk
    have := (List.getElem?_inj (List.getElem?_eq_some_iff.1 hj).1 hn).1 (hj.trans h.symm)
    omega
  · cases hj
theorem wpListIn_update_s {K V : Type} {ek : K → Value} {ev : V → Value} {P : Program} {F : Fence} {nF : Nat} {ops : Array Oper} {rest : List Oper} {o : Oper} {a : Act} {Q : Exit → Act → World → Prop} [DecidableEq K] (w : World) (hg : o.guard = none) (m x v : Operand) (t : TypeId) (hop : o.op = Op.mapUpdate t m x v)
    {kt vt : TypeId} (E : EqKey P kt ek) (ht : P.underlying t = some (.map kt vt)) (b : Nat) (l : List (K × V)) (hm : a.eval m = .map (some b)) (h : KMap ek ev b l w) (k : K) (y : V) (hx : a.eval x = ek k) (hv : a.eval v = ev y) (hn : ∀ p ∈ l, k ≠ p.1)
    (hK : ∀ ob, KMap ek ev b (l ++ [(k, y)]) (setBlock w b ob) → wpListIn F nF P ops Q rest (a.put o.dst undef) (setBlock w b ob)) :
    wpListIn F nF P ops Q (o :: rest) a w := by
  refine wpListIn_plain hg fun K' hK' => ?_
  obtain ⟨ob, hrun, h1⟩ := update_runS E ht h k y hn
  unfold Oper.wpIn
  refine ⟨by simp [Oper.about, hop], ?_⟩
  rw [Oper.semAt_plain F _ _ (by rw [hop]; intro c hc'; cases hc')]
  simp only [execOp, hop, hm, hx, hv, hrun, Sem.run_bind, Result.andThen]
  exact hK' _ _ (hK ob h1)
/-- The sets from the t-th on are cut down. -/
def LsT (s : Sd) (ks : List (Option Int)) (t k : Nat) : List Mv := if t ≤ k then aliveS s ks k else fwS s ks k
/-- What the second loop's rounds hold. -/
structure AtQ2 (y : Sm) (ks : List (Option Int)) (ka : Option Addr) (kc t : Nat) (u : Int) (ms Ds : List Nat) (A : Option Addr) (c : Nat) (w W : World) : Prop where
  at_ : AtL y ks ka kc w.heap.size y.s.spots.length y.s.spots.length (LsT y.s ks t) ms Ds A c w W
  tu : u = (t : Int) - 1
  le : t + 1 ≤ y.s.spots.length
def AtR2 (y : Sm) (ks : List (Option Int)) (ka : Option Addr) (kc : Nat) (ms Ds : List Nat) (A : Option Addr) (c : Nat) (w : World) (a : Act) (W : World) : Prop := ∃ (t : Nat) (u : Int) (zs : Nat → Value), a = { tmps := List.toArray (List.cons (smV y) (List.cons (.slice ka ks.length kc) (List.cons (.pointer (some ⟨w.heap.size, 0, none⟩)) (List.cons (zs 3) (List.cons (.pointer none) (List.cons (.bool false) (List.cons (.pointer (some ⟨(w.heap.size + 1 + 1), 0, none⟩)) (List.cons (.pointer (some ⟨(w.heap.size + 1 + 1 + 1), 0, none⟩)) (List.cons (zs 8) (List.cons (zs 9) (List.cons (zs 10) (List.cons (zs 11) (List.cons (vi u) (List.cons (zs 13) (List.cons (zs 14) (List.cons (zs 15) (List.cons (zs 16) (List.cons (zs 17) (List.cons (zs 18) (List.cons (zs 19) (List.cons (zs 20) (List.cons (zs 21) (List.cons (zs 22) (List.cons (zs 23) (List.cons (zs 24) (List.cons (zs 25) (List.cons (zs 26) (List.cons (zs 27) (List.cons (zs 28) (List.cons (zs 29) (List.cons (zs 30) (List.cons (zs 31) (List.cons (zs 32) (List.cons (zs 33) (List.cons (zs 34) (List.cons (zs 35) (List.cons (zs 36) (List.cons (zs 37) (List.cons (zs 38) (List.cons (zs 39) (List.cons (zs 40) (List.cons (zs 41) (List.cons (zs 42) (List.cons (zs 43) (List.cons (zs 44) (List.cons (zs 45) (List.cons (zs 46) (List.cons (zs 47) (List.cons (zs 48) (List.cons (zs 49) (List.cons (zs 50) (List.cons (zs 51) (List.cons (zs 52) (List.cons (zs 53) (List.cons (zs 54) (List.cons (zs 55) (List.cons (zs 56) (List.cons (zs 57) (List.cons (zs 58) (List.cons (zs 59) (List.cons (zs 60) (List.cons (zs 61) (List.cons (zs 62) (List.cons (zs 63) (List.cons (zs 64) (List.cons (zs 65) (List.cons (zs 66) (List.cons (zs 67) (List.cons (zs 68) (List.cons (zs 69) (List.cons (zs 70) (List.cons (zs 71) (List.cons (zs 72) (List.cons (zs 73) (List.cons (zs 74) (List.cons (zs 75) (List.cons (zs 76) (List.cons (zs 77) (List.cons (zs 78) (List.cons (zs 79) (List.cons (zs 80) (List.cons (zs 81) (List.cons (zs 82) (List.cons (zs 83) (List.cons (zs 84) (List.cons (zs 85) (List.cons (zs 86) (List.cons (zs 87) (List.cons (zs 88) (List.cons (zs 89) (List.cons (zs 90) (List.cons (zs 91) (List.cons (zs 92) (List.cons (zs 93) (List.cons (zs 94) (List.cons (zs 95) (List.cons (zs 96) (List.cons (zs 97) (List.cons (zs 98) (List.cons (zs 99) (List.cons (zs 100) (List.cons (zs 101) (List.cons (zs 102) (List.cons (zs 103) (List.cons (zs 104) (List.cons (zs 105) (List.cons (zs 106) (List.cons (zs 107) (List.cons (zs 108) (List.cons (zs 109) (List.cons (zs 110) (List.cons (zs 111) (List.cons (zs 112) (List.nil)))))))))))))))))))))))))))))))))))))))))))))))))))))))))))))))))))))))))))))))))))))))))))))))))))))))))))))))))), defers := Ds.map markD } ∧ AtQ2 y ks ka kc t u ms Ds A c w W
theorem AtR2.elim {y : Sm} {ks : List (Option Int)} {ka : Option Addr} {kc : Nat} {ms Ds : List Nat} {A : Option Addr} {c : Nat} {w : World} {a : Act} {W : World} (h : AtR2 y ks ka kc ms Ds A c w a W) {C : Act → World → Prop}
    (hc : ∀ (t : Nat) (u : Int) (z3 z8 z9 z10 z11 z13 z14 z15 z16 z17 z18 z19 z20 z21 z22 z23 z24 z25 z26 z27 z28 z29 z30 z31 z32 z33 z34 z35 z36 z37 z38 z39 z40 z41 z42 z43 z44 z45 z46 z47 z48 z49 z50 z51 z52 z53 z54 z55 z56 z57 z58 z59 z60 z61 z62 z63 z64 z65 z66 z67 z68 z69 z70 z71 z72 z73 z74 z75 z76 z77 z78 z79 z80 z81 z82 z83 z84 z85 z86 z87 z88 z89 z90 z91 z92 z93 z94 z95 z96 z97 z98 z99 z100 z101 z102 z103 z104 z105 z106 z107 z108 z109 z110 z111 z112 : Value), AtQ2 y ks ka kc t u ms Ds A c w W → slotOf a 12 = vi u → C { tmps := List.toArray (List.cons (smV y) (List.cons (.slice ka ks.length kc) (List.cons (.pointer (some ⟨w.heap.size, 0, none⟩)) (List.cons (z3) (List.cons (.pointer none) (List.cons (.bool false) (List.cons (.pointer (some ⟨(w.heap.size + 1 + 1), 0, none⟩)) (List.cons (.pointer (some ⟨(w.heap.size + 1 + 1 + 1), 0, none⟩)) (List.cons (z8) (List.cons (z9) (List.cons (z10) (List.cons (z11) (List.cons (vi u) (List.cons (z13) (List.cons (z14) (List.cons (z15) (List.cons (z16) (List.cons (z17) (List.cons (z18) (List.cons (z19) (List.cons (z20) (List.cons (z21) (List.cons (z22) (List.cons (z23) (List.cons (z24) (List.cons (z25) (List.cons (z26) (List.cons (z27) (List.cons (z28) (List.cons (z29) (List.cons (z30) (List.cons (z31) (List.cons (z32) (List.cons (z33) (List.cons (z34) (List.cons (z35) (List.cons (z36) (List.cons (z37) (List.cons (z38) (List.cons (z39) (List.cons (z40) (List.cons (z41) (List.cons (z42) (List.cons (z43) (List.cons (z44) (List.cons (z45) (List.cons (z46) (List.cons (z47) (List.cons (z48) (List.cons (z49) (List.cons (z50) (List.cons (z51) (List.cons (z52) (List.cons (z53) (List.cons (z54) (List.cons (z55) (List.cons (z56) (List.cons (z57) (List.cons (z58) (List.cons (z59) (List.cons (z60) (List.cons (z61) (List.cons (z62) (List.cons (z63) (List.cons (z64) (List.cons (z65) (List.cons (z66) (List.cons (z67) (List.cons (z68) (List.cons (z69) (List.cons (z70) (List.cons (z71) (List.cons (z72) (List.cons (z73) (List.cons (z74) (List.cons (z75) (List.cons (z76) (List.cons (z77) (List.cons (z78) (List.cons (z79) (List.cons (z80) (List.cons (z81) (List.cons (z82) (List.cons (z83) (List.cons (z84) (List.cons (z85) (List.cons (z86) (List.cons (z87) (List.cons (z88) (List.cons (z89) (List.cons (z90) (List.cons (z91) (List.cons (z92) (List.cons (z93) (List.cons (z94) (List.cons (z95) (List.cons (z96) (List.cons (z97) (List.cons (z98) (List.cons (z99) (List.cons (z100) (List.cons (z101) (List.cons (z102) (List.cons (z103) (List.cons (z104) (List.cons (z105) (List.cons (z106) (List.cons (z107) (List.cons (z108) (List.cons (z109) (List.cons (z110) (List.cons (z111) (List.cons (z112) (List.nil)))))))))))))))))))))))))))))))))))))))))))))))))))))))))))))))))))))))))))))))))))))))))))))))))))))))))))))))))), defers := Ds.map markD } W) : C a W := by
  obtain ⟨t, u, zs, rfl, hJ⟩ := h
  exact hc _ _ _ _ _ _ _ _ _ _ _ _ _ _ _ _ _ _ _ _ _ _ _ _ _ _ _ _ _ _ _ _ _ _ _ _ _ _ _ _ _ _ _ _ _ _ _ _ _ _ _ _ _ _ _ _ _ _ _ _ _ _ _ _ _ _ _ _ _ _ _ _ _ _ _ _ _ _ _ _ _ _ _ _ _ _ _ _ _ _ _ _ _ _ _ _ _ _ _ _ _ _ _ _ _ _ _ hJ rfl
theorem AtR2.intro {y : Sm} {ks : List (Option Int)} {ka : Option Addr} {kc : Nat} {ms Ds : List Nat} {A : Option Addr} {c : Nat} {w : World} {W : World} (t : Nat) (u : Int) (z3 z8 z9 z10 z11 z13 z14 z15 z16 z17 z18 z19 z20 z21 z22 z23 z24 z25 z26 z27 z28 z29 z30 z31 z32 z33 z34 z35 z36 z37 z38 z39 z40 z41 z42 z43 z44 z45 z46 z47 z48 z49 z50 z51 z52 z53 z54 z55 z56 z57 z58 z59 z60 z61 z62 z63 z64 z65 z66 z67 z68 z69 z70 z71 z72 z73 z74 z75 z76 z77 z78 z79 z80 z81 z82 z83 z84 z85 z86 z87 z88 z89 z90 z91 z92 z93 z94 z95 z96 z97 z98 z99 z100 z101 z102 z103 z104 z105 z106 z107 z108 z109 z110 z111 z112 : Value) (hJ : AtQ2 y ks ka kc t u ms Ds A c w W) : AtR2 y ks ka kc ms Ds A c w { tmps := List.toArray (List.cons (smV y) (List.cons (.slice ka ks.length kc) (List.cons (.pointer (some ⟨w.heap.size, 0, none⟩)) (List.cons (z3) (List.cons (.pointer none) (List.cons (.bool false) (List.cons (.pointer (some ⟨(w.heap.size + 1 + 1), 0, none⟩)) (List.cons (.pointer (some ⟨(w.heap.size + 1 + 1 + 1), 0, none⟩)) (List.cons (z8) (List.cons (z9) (List.cons (z10) (List.cons (z11) (List.cons (vi u) (List.cons (z13) (List.cons (z14) (List.cons (z15) (List.cons (z16) (List.cons (z17) (List.cons (z18) (List.cons (z19) (List.cons (z20) (List.cons (z21) (List.cons (z22) (List.cons (z23) (List.cons (z24) (List.cons (z25) (List.cons (z26) (List.cons (z27) (List.cons (z28) (List.cons (z29) (List.cons (z30) (List.cons (z31) (List.cons (z32) (List.cons (z33) (List.cons (z34) (List.cons (z35) (List.cons (z36) (List.cons (z37) (List.cons (z38) (List.cons (z39) (List.cons (z40) (List.cons (z41) (List.cons (z42) (List.cons (z43) (List.cons (z44) (List.cons (z45) (List.cons (z46) (List.cons (z47) (List.cons (z48) (List.cons (z49) (List.cons (z50) (List.cons (z51) (List.cons (z52) (List.cons (z53) (List.cons (z54) (List.cons (z55) (List.cons (z56) (List.cons (z57) (List.cons (z58) (List.cons (z59) (List.cons (z60) (List.cons (z61) (List.cons (z62) (List.cons (z63) (List.cons (z64) (List.cons (z65) (List.cons (z66) (List.cons (z67) (List.cons (z68) (List.cons (z69) (List.cons (z70) (List.cons (z71) (List.cons (z72) (List.cons (z73) (List.cons (z74) (List.cons (z75) (List.cons (z76) (List.cons (z77) (List.cons (z78) (List.cons (z79) (List.cons (z80) (List.cons (z81) (List.cons (z82) (List.cons (z83) (List.cons (z84) (List.cons (z85) (List.cons (z86) (List.cons (z87) (List.cons (z88) (List.cons (z89) (List.cons (z90) (List.cons (z91) (List.cons (z92) (List.cons (z93) (List.cons (z94) (List.cons (z95) (List.cons (z96) (List.cons (z97) (List.cons (z98) (List.cons (z99) (List.cons (z100) (List.cons (z101) (List.cons (z102) (List.cons (z103) (List.cons (z104) (List.cons (z105) (List.cons (z106) (List.cons (z107) (List.cons (z108) (List.cons (z109) (List.cons (z110) (List.cons (z111) (List.cons (z112) (List.nil)))))))))))))))))))))))))))))))))))))))))))))))))))))))))))))))))))))))))))))))))))))))))))))))))))))))))))))))))), defers := Ds.map markD } W :=
  ⟨t, u, fun i => slotOf { tmps := List.toArray (List.cons (smV y) (List.cons (.slice ka ks.length kc) (List.cons (.pointer (some ⟨w.heap.size, 0, none⟩)) (List.cons (z3) (List.cons (.pointer none) (List.cons (.bool false) (List.cons (.pointer (some ⟨(w.heap.size + 1 + 1), 0, none⟩)) (List.cons (.pointer (some ⟨(w.heap.size + 1 + 1 + 1), 0, none⟩)) (List.cons (z8) (List.cons (z9) (List.cons (z10) (List.cons (z11) (List.cons (vi u) (List.cons (z13) (List.cons (z14) (List.cons (z15) (List.cons (z16) (List.cons (z17) (List.cons (z18) (List.cons (z19) (List.cons (z20) (List.cons (z21) (List.cons (z22) (List.cons (z23) (List.cons (z24) (List.cons (z25) (List.cons (z26) (List.cons (z27) (List.cons (z28) (List.cons (z29) (List.cons (z30) (List.cons (z31) (List.cons (z32) (List.cons (z33) (List.cons (z34) (List.cons (z35) (List.cons (z36) (List.cons (z37) (List.cons (z38) (List.cons (z39) (List.cons (z40) (List.cons (z41) (List.cons (z42) (List.cons (z43) (List.cons (z44) (List.cons (z45) (List.cons (z46) (List.cons (z47) (List.cons (z48) (List.cons (z49) (List.cons (z50) (List.cons (z51) (List.cons (z52) (List.cons (z53) (List.cons (z54) (List.cons (z55) (List.cons (z56) (List.cons (z57) (List.cons (z58) (List.cons (z59) (List.cons (z60) (List.cons (z61) (List.cons (z62) (List.cons (z63) (List.cons (z64) (List.cons (z65) (List.cons (z66) (List.cons (z67) (List.cons (z68) (List.cons (z69) (List.cons (z70) (List.cons (z71) (List.cons (z72) (List.cons (z73) (List.cons (z74) (List.cons (z75) (List.cons (z76) (List.cons (z77) (List.cons (z78) (List.cons (z79) (List.cons (z80) (List.cons (z81) (List.cons (z82) (List.cons (z83) (List.cons (z84) (List.cons (z85) (List.cons (z86) (List.cons (z87) (List.cons (z88) (List.cons (z89) (List.cons (z90) (List.cons (z91) (List.cons (z92) (List.cons (z93) (List.cons (z94) (List.cons (z95) (List.cons (z96) (List.cons (z97) (List.cons (z98) (List.cons (z99) (List.cons (z100) (List.cons (z101) (List.cons (z102) (List.cons (z103) (List.cons (z104) (List.cons (z105) (List.cons (z106) (List.cons (z107) (List.cons (z108) (List.cons (z109) (List.cons (z110) (List.cons (z111) (List.cons (z112) (List.nil)))))))))))))))))))))))))))))))))))))))))))))))))))))))))))))))))))))))))))))))))))))))))))))))))))))))))))))))))), defers := [] } i, rfl, hJ⟩
/-- The marks are shut. -/
theorem AtL.shut {y : Sm} {ks : List (Option Int)} {ka : Option Addr} {kc b i x : Nat} {Ls : Nat → List Mv} {ms Ds : List Nat} {A : Option Addr} {c : Nat} {w W W' : World} (h : AtL y ks ka kc b i x Ls ms Ds A c w W)
    (h1 : W'.os = W.os) (h2 : W'.tape = W.tape) (h3 : W'.output = W.output) (h4 : W'.heap.size = W.heap.size) (h5 : ∀ k, k ∉ Ds → W'.heap[k]? = W.heap[k]?) : AtL y ks ka kc b i x Ls ms [] A c w W' :=
  ⟨newer_shut h.nw (fun D hD => by have := h.dg D hD; have := h.wb; omega) h1 h2 h3 h4 h5, h.b0.same (h5 _ (h.mks.far h.b0)), h.lk.same (h5 _ (h.mks.far h.lk)), h.xv.same (h5 _ (h.mks.far h.xv)), h.fv.same (h5 _ (h.mks.far h.fv)), own_same h.ow (fun k hk => h5 k (mark_own h.mks h.ow k hk)), h.ln,
    fun j m hm hx => (h.mp j m hm hx).same (h5 m (mark_map h.mks (h.mp j m hm hx))), fun m hm => ⟨(h.ml m hm).1, by rw [h4]; exact (h.ml m hm).2⟩, fun m hm => ⟨by simp, (h.md m hm).2⟩, h.nd, ⟨List.nodup_nil, fun D hD => by simp at hD⟩, fun D hD => by simp at hD, h.wb⟩
theorem rowM2 {w : World} {B : Nat} {A : Option Addr} {l : List Nat} {b off : Nat} (h : Row mapL 1 w B A l) (hA : A = some ⟨b, off, none⟩) {k : Nat} {c : Nat} (hk : l[k]? = some c) : w.cell? ⟨b, off + k, none⟩ = some (.map (some c)) := by
  obtain ⟨b', off', e, _, hc⟩ := rowM h hk
  rw [hA] at e
  injection e with e
  injection e with e1 e2
  rw [e1, e2]
  exact hc
theorem kvL_filter (L : List Mv) (a : Mv) : ((kvL L).filter fun p => decide (p.1 ≠ a)) = kvL (L.filter fun m => decide (m ≠ a)) := by
  unfold kvL
  rw [List.filter_map]
  rfl
/-- What is left of a set, while it is cut down. -/
def cutL (F rem : List Mv) (good : Mv → Bool) : List Mv := F.filter fun m => decide (m ∈ rem) || good m
theorem cut_all (F : List Mv) (good : Mv → Bool) : cutL F F good = F := by
  unfold cutL
  rw [List.filter_eq_self]
  intro m hm
  simp [hm]
theorem cut_none (F : List Mv) (good : Mv → Bool) : cutL F [] good = F.filter good := by
  unfold cutL
  apply List.filter_congr
  intro m _
  simp
theorem cut_good {F rem : List Mv} {good : Mv → Bool} {a : Mv} (h : good a = true) : cutL F rem good = cutL F (rem.filter fun k => decide (k ≠ a)) good := by
  unfold cutL
  apply List.filter_congr
  intro m _
  by_cases e : m = a
  · rw [e, h, Bool.or_true, Bool.or_true]
  · simp [List.mem_filter, e]
theorem cut_bad {F rem : List Mv} {good : Mv → Bool} {a : Mv} (h : good a = false) : (cutL F rem good).filter (fun m => decide (m ≠ a)) = cutL F ((rem.filter fun k => decide (k ≠ a)).filter fun k => decide (k ≠ a)) good := by
  unfold cutL
  rw [List.filter_filter]
  apply List.filter_congr
  intro m _
  by_cases e : m = a
  · rw [e, h]
    simp
  · simp [List.mem_filter, e]
theorem grown_of_next {W W' : World} {r : Nat} (hb : Below r W W') (hs : W'.heap.size = W.heap.size) (ho : ∀ g, g ≠ r → W'.heap[g]? = W.heap[g]?) : W.grownBy W' (some r) := ⟨hb.os, hb.tape, hb.output, by rw [hs]; exact Nat.le_refl _, fun k _ hk => ho k (fun e => hk (by rw [e]))⟩

end Go.Proofs.Ytpmafnifgegfbaa
