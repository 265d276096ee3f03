/- The cheapest surface of so many columns. -/
import Derived.Test.YtkenokpobbichaaJA
namespace Go.Proofs.Ytkenokpobbichaa
open Go.RowKit Go.Shelf Go.Deep

/-- The world in which the search begins. -/
abbrev wOf (s : Sm) (f : Int) (t : Option Bool) (z : Nat) (w : World) : World := (((((((w.alloc (.cells (lkC s f t) 115)).alloc (.cells #[vi z] 3)).alloc (.cells #[vi 0, .slice none 0 0] 39)).alloc (.map #[] 0)).alloc (.cells #[.map (some (w.heap.size + 1 + 1 + 1))] 159)).alloc (.cells #[.func (.func 84) #[lkV s f t] #[]] 133)).alloc (.cells #[.func (.func 114) #[] (rpA (rpOf s f t z w.heap.size))] 160))
theorem start_is (s : Sm) (f : Int) (t : Option Bool) (z : Nat) (w : World) (hok : SmOk s w) : RsM (rpOf s f t z w.heap.size) [] (wOf s f t z w) ∧ Whole (wOf s f t z w) (w.heap.size + 1 + 1) 39 #[vi 0, .slice none 0 0] ∧ newer w (wOf s f t z w) ∧ (wOf s f t z w).heap.size = w.heap.size + 7 := by
  have h1 : newer w (wOf s f t z w) := newer_trans (newer_trans (newer_trans (newer_trans (newer_trans (newer_trans (newer_allocH _ _) (newer_allocH _ _)) (newer_allocH _ _)) (newer_allocH _ _)) (newer_allocH _ _)) (newer_allocH _ _)) (newer_allocH _ _)
  have at_ : ∀ i o, (w.heap ++ #[.cells (lkC s f t) 115, .cells #[vi z] 3, .cells #[vi 0, .slice none 0 0] 39, .map #[] 0, .cells #[.map (some (w.heap.size + 1 + 1 + 1))] 159, .cells #[.func (.func 84) #[lkV s f t] #[]] 133, .cells #[.func (.func 114) #[] (rpA (rpOf s f t z w.heap.size))] 160])[w.heap.size + i]? = some o → (wOf s f t z w).heap[w.heap.size + i]? = some o := by
    intro i o h
    rw [← h]
    rfl
  have get : ∀ (i : Nat) (o : Obj) (l : Array Obj), l[i]? = some o → (w.heap ++ l)[w.heap.size + i]? = some o := by
    intro i o l h
    rw [Array.getElem?_append_right (by omega), Nat.add_sub_cancel_left]
    exact h
  refine ⟨⟨at_ 0 _ (get 0 _ _ rfl), at_ 1 _ (get 1 _ _ rfl), at_ 4 _ (get 4 _ _ rfl), at_ 5 _ (get 5 _ _ rfl), at_ 6 _ (get 6 _ _ rfl), ⟨at_ 3 _ (get 3 _ _ rfl)⟩, (SmOk.at hok).same (fun k hk => h1.block k hk) h1.size⟩, at_ 2 _ (get 2 _ _ rfl), h1, by simp⟩
/-- What the second loop holds. -/
structure ChJ (T : RP) (b k m bi c j : Nat) (Ds acc : List Nat) (cur pb q cc : Nat) (lp : List ((Int × Int) × Int)) (w W : World) : Prop where
  me : RsM T lp W
  gd : Good T lp
  ch : ChS b k c j Ds acc cur pb q cc w W
  ln : acc.length = j
  jm : j ≤ m
  cn : cur < T.n
  pa : acc ++ pathB T.c T.n bigN (m - j) c cur = pathB T.c T.n bigN m k bi
  dl : Ds.length = j
  ck : c = k + j
/-- What the second loop's rounds hold. -/
def ChR (s : Sm) (f : Int) (t : Option Bool) (z k m bi : Nat) (bv : Int) (w : World) (a : Act) (W : World) : Prop := ∃ (c j : Nat) (Ds acc : List Nat) (cur pb q cc : Nat) (lp : List ((Int × Int) × Int)) (zs : Nat → Value), a = { tmps := List.toArray (List.cons (lkV s f t) (List.cons (vi k) (List.cons (vi z) (List.cons (.pointer (some ⟨w.heap.size, 0, none⟩)) (List.cons (zs 4) (List.cons (.pointer (some ⟨(w.heap.size + 1), 0, none⟩)) (List.cons (.pointer (some ⟨(w.heap.size + 1 + 1), 0, none⟩)) (List.cons (vi bv) (List.cons (.pointer (some ⟨(w.heap.size + 1 + 1 + 1 + 1), 0, none⟩)) (List.cons (.pointer (some ⟨(w.heap.size + 1 + 1 + 1 + 1 + 1), 0, none⟩)) (List.cons (.pointer (some ⟨(w.heap.size + 1 + 1 + 1 + 1 + 1 + 1), 0, none⟩)) (List.cons (vi bi) (List.cons (zs 12) (List.cons (zs 13) (List.cons (.pointer (some ⟨pb, 0, none⟩)) (List.cons (zs 15) (List.cons (zs 16) (List.cons (zs 17) (List.cons (zs 18) (List.cons (zs 19) (List.cons (zs 20) (List.cons (zs 21) (List.cons (zs 22) (List.cons (zs 23) (List.cons (zs 24) (List.cons (zs 25) (List.cons (zs 26) (List.cons (zs 27) (List.cons (zs 28) (List.cons (zs 29) (List.cons (zs 30) (List.cons (zs 31) (List.cons (zs 32) (List.cons (zs 33) (List.cons (zs 34) (List.cons (zs 35) (List.cons (zs 36) (List.cons (zs 37) (List.cons (zs 38) (List.cons (zs 39) (List.cons (zs 40) (List.cons (zs 41) (List.cons (zs 42) (List.cons (zs 43) (List.cons (zs 44) (List.cons (zs 45) (List.cons (zs 46) (List.cons (zs 47) (List.cons (zs 48) (List.cons (zs 49) (List.cons (zs 50) (List.cons (zs 51) (List.cons (zs 52) (List.cons (zs 53) (List.cons (zs 54) (List.cons (zs 55) (List.cons (zs 56) (List.cons (zs 57) (List.cons (zs 58) (List.cons (zs 59) (List.cons (zs 60) (List.cons (zs 61) (List.cons (zs 62) (List.cons (zs 63) (List.cons (zs 64) (List.cons (zs 65) (List.cons (zs 66) (List.cons (zs 67) (List.cons (zs 68) (List.cons (zs 69) (List.cons (zs 70) (List.cons (zs 71) (List.cons (zs 72) (List.cons (zs 73) (List.cons (zs 74) (List.cons (zs 75) (List.cons (zs 76) (List.cons (zs 77) (List.cons (zs 78) (List.cons (zs 79) (List.cons (zs 80) (List.cons (zs 81) (List.cons (zs 82) (List.nil)))))))))))))))))))))))))))))))))))))))))))))))))))))))))))))))))))))))))))))))))))), defers := Ds.map markD } ∧ ChJ (rpOf s f t z w.heap.size) w.heap.size k m bi c j Ds acc cur pb q cc lp w W
theorem ChR.elim {s : Sm} {f : Int} {t : Option Bool} {z k m bi : Nat} {bv : Int} {w : World} {a : Act} {W : World} (h : ChR s f t z k m bi bv w a W) {C : Act → World → Prop}
    (hc : ∀ (c j : Nat) (Ds acc : List Nat) (cur pb q cc : Nat) (lp : List ((Int × Int) × Int)) (z4 z12 z13 z15 z16 z17 z18 z19 z20 z21 z22 z23 z24 z25 z26 z27 z28 z29 z30 z31 z32 z33 z34 z35 z36 z37 z38 z39 z40 z41 z42 z43 z44 z45 z46 z47 z48 z49 z50 z51 z52 z53 z54 z55 z56 z57 z58 z59 z60 z61 z62 z63 z64 z65 z66 z67 z68 z69 z70 z71 z72 z73 z74 z75 z76 z77 z78 z79 z80 z81 z82 : Value), ChJ (rpOf s f t z w.heap.size) w.heap.size k m bi c j Ds acc cur pb q cc lp w W → a.defers.length = Ds.length → C { tmps := List.toArray (List.cons (lkV s f t) (List.cons (vi k) (List.cons (vi z) (List.cons (.pointer (some ⟨w.heap.size, 0, none⟩)) (List.cons (z4) (List.cons (.pointer (some ⟨(w.heap.size + 1), 0, none⟩)) (List.cons (.pointer (some ⟨(w.heap.size + 1 + 1), 0, none⟩)) (List.cons (vi bv) (List.cons (.pointer (some ⟨(w.heap.size + 1 + 1 + 1 + 1), 0, none⟩)) (List.cons (.pointer (some ⟨(w.heap.size + 1 + 1 + 1 + 1 + 1), 0, none⟩)) (List.cons (.pointer (some ⟨(w.heap.size + 1 + 1 + 1 + 1 + 1 + 1), 0, none⟩)) (List.cons (vi bi) (List.cons (z12) (List.cons (z13) (List.cons (.pointer (some ⟨pb, 0, none⟩)) (List.cons (z15) (List.cons (z16) (List.cons (z17) (List.cons (z18) (List.cons (z19) (List.cons (z20) (List.cons (z21) (List.cons (z22) (List.cons (z23) (List.cons (z24) (List.cons (z25) (List.cons (z26) (List.cons (z27) (List.cons (z28) (List.cons (z29) (List.cons (z30) (List.cons (z31) (List.cons (z32) (List.cons (z33) (List.cons (z34) (List.cons (z35) (List.cons (z36) (List.cons (z37) (List.cons (z38) (List.cons (z39) (List.cons (z40) (List.cons (z41) (List.cons (z42) (List.cons (z43) (List.cons (z44) (List.cons (z45) (List.cons (z46) (List.cons (z47) (List.cons (z48) (List.cons (z49) (List.cons (z50) (List.cons (z51) (List.cons (z52) (List.cons (z53) (List.cons (z54) (List.cons (z55) (List.cons (z56) (List.cons (z57) (List.cons (z58) (List.cons (z59) (List.cons (z60) (List.cons (z61) (List.cons (z62) (List.cons (z63) (List.cons (z64) (List.cons (z65) (List.cons (z66) (List.cons (z67) (List.cons (z68) (List.cons (z69) (List.cons (z70) (List.cons (z71) (List.cons (z72) (List.cons (z73) (List.cons (z74) (List.cons (z75) (List.cons (z76) (List.cons (z77) (List.cons (z78) (List.cons (z79) (List.cons (z80) (List.cons (z81) (List.cons (z82) (List.nil)))))))))))))))))))))))))))))))))))))))))))))))))))))))))))))))))))))))))))))))))))), defers := Ds.map markD } W) : C a W := by
  obtain ⟨c, j, Ds, acc, cur, pb, q, cc, lp, zs, rfl, hJ⟩ := h
  exact hc _ _ _ _ _ _ _ _ _ (zs 4) (zs 12) (zs 13) (zs 15) (zs 16) (zs 17) (zs 18) (zs 19) (zs 20) (zs 21) (zs 22) (zs 23) (zs 24) (zs 25) (zs 26) (zs 27) (zs 28) (zs 29) (zs 30) (zs 31) (zs 32) (zs 33) (zs 34) (zs 35) (zs 36) (zs 37) (zs 38) (zs 39) (zs 40) (zs 41) (zs 42) (zs 43) (zs 44) (zs 45) (zs 46) (zs 47) (zs 48) (zs 49) (zs 50) (zs 51) (zs 52) (zs 53) (zs 54) (zs 55) (zs 56) (zs 57) (zs 58) (zs 59) (zs 60) (zs 61) (zs 62) (zs 63) (zs 64) (zs 65) (zs 66) (zs 67) (zs 68) (zs 69) (zs 70) (zs 71) (zs 72) (zs 73) (zs 74) (zs 75) (zs 76) (zs 77) (zs 78) (zs 79) (zs 80) (zs 81) (zs 82) hJ (by simp)
theorem ChR.intro {s : Sm} {f : Int} {t : Option Bool} {z k m bi : Nat} {bv : Int} {w : World} {W : World} (c j : Nat) (Ds acc : List Nat) (cur pb q cc : Nat) (lp : List ((Int × Int) × Int)) (z4 z12 z13 z15 z16 z17 z18 z19 z20 z21 z22 z23 z24 z25 z26 z27 z28 z29 z30 z31 z32 z33 z34 z35 z36 z37 z38 z39 z40 z41 z42 z43 z44 z45 z46 z47 z48 z49 z50 z51 z52 z53 z54 z55 z56 z57 z58 z59 z60 z61 z62 z63 z64 z65 z66 z67 z68 z69 z70 z71 z72 z73 z74 z75 z76 z77 z78 z79 z80 z81 z82 : Value) (hJ : ChJ (rpOf s f t z w.heap.size) w.heap.size k m bi c j Ds acc cur pb q cc lp w W) : ChR s f t z k m bi bv w { tmps := List.toArray (List.cons (lkV s f t) (List.cons (vi k) (List.cons (vi z) (List.cons (.pointer (some ⟨w.heap.size, 0, none⟩)) (List.cons (z4) (List.cons (.pointer (some ⟨(w.heap.size + 1), 0, none⟩)) (List.cons (.pointer (some ⟨(w.heap.size + 1 + 1), 0, none⟩)) (List.cons (vi bv) (List.cons (.pointer (some ⟨(w.heap.size + 1 + 1 + 1 + 1), 0, none⟩)) (List.cons (.pointer (some ⟨(w.heap.size + 1 + 1 + 1 + 1 + 1), 0, none⟩)) (List.cons (.pointer (some ⟨(w.heap.size + 1 + 1 + 1 + 1 + 1 + 1), 0, none⟩)) (List.cons (vi bi) (List.cons (z12) (List.cons (z13) (List.cons (.pointer (some ⟨pb, 0, none⟩)) (List.cons (z15) (List.cons (z16) (List.cons (z17) (List.cons (z18) (List.cons (z19) (List.cons (z20) (List.cons (z21) (List.cons (z22) (List.cons (z23) (List.cons (z24) (List.cons (z25) (List.cons (z26) (List.cons (z27) (List.cons (z28) (List.cons (z29) (List.cons (z30) (List.cons (z31) (List.cons (z32) (List.cons (z33) (List.cons (z34) (List.cons (z35) (List.cons (z36) (List.cons (z37) (List.cons (z38) (List.cons (z39) (List.cons (z40) (List.cons (z41) (List.cons (z42) (List.cons (z43) (List.cons (z44) (List.cons (z45) (List.cons (z46) (List.cons (z47) (List.cons (z48) (List.cons (z49) (List.cons (z50) (List.cons (z51) (List.cons (z52) (List.cons (z53) (List.cons (z54) (List.cons (z55) (List.cons (z56) (List.cons (z57) (List.cons (z58) (List.cons (z59) (List.cons (z60) (List.cons (z61) (List.cons (z62) (List.cons (z63) (List.cons (z64) (List.cons (z65) (List.cons (z66) (List.cons (z67) (List.cons (z68) (List.cons (z69) (List.cons (z70) (List.cons (z71) (List.cons (z72) (List.cons (z73) (List.cons (z74) (List.cons (z75) (List.cons (z76) (List.cons (z77) (List.cons (z78) (List.cons (z79) (List.cons (z80) (List.cons (z81) (List.cons (z82) (List.nil)))))))))))))))))))))))))))))))))))))))))))))))))))))))))))))))))))))))))))))))))))), defers := Ds.map markD } W :=
  ⟨c, j, Ds, acc, cur, pb, q, cc, lp, fun i => slotOf { tmps := List.toArray (List.cons (lkV s f t) (List.cons (vi k) (List.cons (vi z) (List.cons (.pointer (some ⟨w.heap.size, 0, none⟩)) (List.cons (z4) (List.cons (.pointer (some ⟨(w.heap.size + 1), 0, none⟩)) (List.cons (.pointer (some ⟨(w.heap.size + 1 + 1), 0, none⟩)) (List.cons (vi bv) (List.cons (.pointer (some ⟨(w.heap.size + 1 + 1 + 1 + 1), 0, none⟩)) (List.cons (.pointer (some ⟨(w.heap.size + 1 + 1 + 1 + 1 + 1), 0, none⟩)) (List.cons (.pointer (some ⟨(w.heap.size + 1 + 1 + 1 + 1 + 1 + 1), 0, none⟩)) (List.cons (vi bi) (List.cons (z12) (List.cons (z13) (List.cons (.pointer (some ⟨pb, 0, none⟩)) (List.cons (z15) (List.cons (z16) (List.cons (z17) (List.cons (z18) (List.cons (z19) (List.cons (z20) (List.cons (z21) (List.cons (z22) (List.cons (z23) (List.cons (z24) (List.cons (z25) (List.cons (z26) (List.cons (z27) (List.cons (z28) (List.cons (z29) (List.cons (z30) (List.cons (z31) (List.cons (z32) (List.cons (z33) (List.cons (z34) (List.cons (z35) (List.cons (z36) (List.cons (z37) (List.cons (z38) (List.cons (z39) (List.cons (z40) (List.cons (z41) (List.cons (z42) (List.cons (z43) (List.cons (z44) (List.cons (z45) (List.cons (z46) (List.cons (z47) (List.cons (z48) (List.cons (z49) (List.cons (z50) (List.cons (z51) (List.cons (z52) (List.cons (z53) (List.cons (z54) (List.cons (z55) (List.cons (z56) (List.cons (z57) (List.cons (z58) (List.cons (z59) (List.cons (z60) (List.cons (z61) (List.cons (z62) (List.cons (z63) (List.cons (z64) (List.cons (z65) (List.cons (z66) (List.cons (z67) (List.cons (z68) (List.cons (z69) (List.cons (z70) (List.cons (z71) (List.cons (z72) (List.cons (z73) (List.cons (z74) (List.cons (z75) (List.cons (z76) (List.cons (z77) (List.cons (z78) (List.cons (z79) (List.cons (z80) (List.cons (z81) (List.cons (z82) (List.nil)))))))))))))))))))))))))))))))))))))))))))))))))))))))))))))))))))))))))))))))))))), defers := [] } i, rfl, hJ⟩
attribute [local go_sem] Oper.semAt_some
theorem info_int : (Try.prog.info? 3).map (fun i => (i.zero, i.size, i.bytes)) = some (some (.int .i64 0), 1, 8) := by kernel_rfl
theorem own_whole {w : World} {base n c g : Nat} {e : TypeId} {xs : List Value} (h : w.ownsRow base e 1 (.slice (some ⟨g, 0, none⟩) n c) n xs) : ∃ t cs, Whole w g t cs := by
  rcases h.2 with ⟨h0, _⟩ | ⟨g2, cap, cur, hv, hb, hg, _⟩
  · cases h0
  · injection hv with e1 _ e3
    injection e1 with e1
    injection e1 with e1
    subst e1
    exact ⟨_, _, hg⟩
set_option maxRecDepth 100000 in
set_option maxHeartbeats 1000000 in
theorem cheap_any (s : Sm) (f : Int) (t : Option Bool) (k m : Nat) (w : World) (hok : SmOk s w) (hs : SdOk s.sd) (f0 : 0 ≤ f) (f1 : f ≤ 10001) (hk : k + m < s.cs.length) :
    Calls Try.prog 98 #[lkV s f t, vi k, vi (k + m : Nat)] w fun e w' => ∃ q c, e = .returned (.tuple #[.agg #[vi k, .slice (some ⟨q, 0, none⟩) (m + 1) c], vi (cheapN (cF (hT t s.sd) (dAt s.sd) f) s.sd.n bigN m k).2]) ∧ newer w w' ∧ w'.ownsRow w.heap.size 3 1 (.slice (some ⟨q, 0, none⟩) (m + 1) c) (m + 1) ((cheapN (cF (hT t s.sd) (dAt s.sd) f) s.sd.n bigN m k).1.map fun x : Nat => vi x) := by
  obtain ⟨z, hz⟩ : ∃ z, z = k + m := ⟨_, rfl⟩
  rw [← hz] at hk ⊢
  obtain ⟨x, _, hx, _, hxl, _, _⟩ := sm_bed hs (k := 0) (j := 0) (by omega) (by have := hs.beds; omega)
  have HX := Lib.hid (And.intro hx hxl)
  have HZ := Lib.hid hz
  clear hz hx hxl
  have hT0 : RpOk (rpOf s f t z w.heap.size) := ⟨hs, f0, f1, hk, by simp only []; omega, by simp only []; omega, by simp only []; omega, by simp only []; omega, by simp only []; omega, by simp only []; omega⟩
  have HT := Lib.hid hT0
  have HOK := Lib.hid hok
  have HSD := Lib.hid hs
  clear hs f0 f1 hk hT0
  have HS := Lib.hid (start_is s f t z w hok)
  have e0 := Whole.made w 115 (lkC s f t)
  obtain ⟨b, hb⟩ : ∃ b, b = w.heap.size := ⟨_, rfl⟩
  have l0 := e0.at 0 (v := .slice s.a s.cs.length s.c) rfl
  have l1 := e0.at 1 (v := vi s.least) rfl
  have l2 := e0.at 2 (v := vi f) rfl
  have l3 := e0.at 3 (v := .func (.func (trF t)) #[] #[]) rfl
  clear e0 hok
  refine callsIn_wide.1 (callsIn_of_wp_marks (n := 9) Try.func98 rfl trivial ?_ rfl)
  simp only [Try.ntmps98, List.size_toArray, List.length_cons, List.length_nil, Nat.reduceAdd, Nat.reduceSub, Array.replicate_succ, Array.replicate_zero, List.push_toArray, List.append_toArray, List.nil_append, List.cons_append]
  refine wpIn_wide.2 ?_
  go_wp2_with fail
  rw [run_makeMap]
  go_upto_region 7 with fail
  refine genQ (fun X => RsM (rpOf s f t z w.heap.size) [] X ∧ Whole X (w.heap.size + 1 + 1) 39 #[vi 0, .slice none 0 0] ∧ newer w X ∧ X.heap.size = w.heap.size + 7) HS.out ?_
  clear HS l0 l1 l2 l3 hb b
  rintro w1 ⟨hm, hr, hn, hsz⟩
  obtain ⟨n, hn'⟩ : ∃ n, n = s.sd.n := ⟨_, rfl⟩
  have HN := Lib.hid hn'
  have hxl : x.beds.length = n := by rw [hn']; exact HX.out.2
  have hcall := beds_any s f t x w1 hm.at_.ok HX.out.1
  rw [hxl] at hcall
  have HB := Lib.hid hcall
  have x0 := hm.xl.at 0 (v := .slice s.a s.cs.length s.c) rfl
  have x1 := hm.xl.at 1 (v := vi s.least) rfl
  have x2 := hm.xl.at 2 (v := vi f) rfl
  have x3 := hm.xl.at 3 (v := .func (.func (trF t)) #[] #[]) rfl
  have hn5 : n ≤ 5 := by rw [hn']; exact HSD.out.beds.2
  have H1 := Lib.hid (And.intro hm (And.intro hr (And.intro hn hsz)))
  clear hm hr hn hsz hcall hxl hn'
  go_wp2_with fail
  refine (HB.out).mono ?_
  rintro e w2 ⟨rfl, hb⟩
  have H2 : Hid (RsM (rpOf s f t z w.heap.size) [] w2 ∧ Whole w2 (w.heap.size + 1 + 1) 39 #[vi 0, .slice none 0 0] ∧ newer w w2) := Lib.hid ⟨H1.out.1.next hb, H1.out.2.1.below hb H1.out.2.1.lt, newer_trans H1.out.2.2.1 hb⟩
  clear H1 HB hb x0 x1 x2 x3
  obtain ⟨g, hg⟩ : ∃ g : Nat → Int, g = restN (cF (hT t s.sd) (dAt s.sd) f) n bigN m k := ⟨_, rfl⟩
  have HR : Hid (∀ (j : Nat) lp W, j < n → RsM (rpOf s f t z w.heap.size) lp W → Good (rpOf s f t z w.heap.size) lp → Calls Try.prog 114 (#[.agg #[vi k, vi j]] ++ rpA (rpOf s f t z w.heap.size)) W fun e W' => e = .returned (vi (g j)) ∧ ∃ lp', RsM (rpOf s f t z w.heap.size) lp' W' ∧ Good (rpOf s f t z w.heap.size) lp' ∧ W.grownBy W' (some (w.heap.size + 1 + 1 + 1))) := Lib.hid (by
    intro j lp W hj h1 h2
    rw [hg, HN.out]
    exact rest_any (rpOf s f t z w.heap.size) HT.out m k j lp W HZ.out.symm (by rw [HN.out] at hj; exact hj) h1 h2)
  have HGN := Lib.hid hg
  clear hg
  go_wp2_with fail
  go_loopw [7, 11, 23] (fun s7 s11 s23 wr => ∃ i : Nat, i ≤ n ∧ s23 = vi i ∧ s7 = vi (firstB g bigN i).1 ∧ s11 = vi (firstB g bigN i).2 ∧ (∃ lp, RsM (rpOf s f t z w.heap.size) lp wr ∧ Good (rpOf s f t z w.heap.size) lp) ∧ Whole wr (w.heap.size + 1 + 1) 39 #[vi 0, .slice none 0 0] ∧ newer w wr) (fun _ _ s23 _ => n - (intOf s23).toNat)
  case atStart => exact ⟨0, Nat.zero_le _, rfl, rfl, rfl, ⟨[], H2.out.1, fun p hp => by simp at hp⟩, H2.out.2.1, H2.out.2.2⟩
  case round =>
    obtain ⟨i, hi, rfl, rfl, rfl, ⟨lp, q1, q2⟩, q3, q4⟩ := hrel
    have f0 := q1.fl.at 0 (v := .func (.func 114) #[] (rpA (rpOf s f t z w.heap.size))) rfl
    have H3 := Lib.hid (And.intro q1 (And.intro q2 (And.intro q3 q4)))
    clear q1 q2 q3 q4
    by_cases hlt : i < n
    · go_wp2_with fail
      refine (HR.out i lp wr hlt H3.out.1 H3.out.2.1).mono ?_
      rintro e w4 ⟨rfl, lp4, g1, g2, g3⟩
      have H4 : Hid (RsM (rpOf s f t z w.heap.size) lp4 w4 ∧ Good (rpOf s f t z w.heap.size) lp4 ∧ Whole w4 (w.heap.size + 1 + 1) 39 #[vi 0, .slice none 0 0] ∧ newer w w4) := Lib.hid ⟨g1, g2, H3.out.2.2.1.grown g3 (fun e => by injection e; omega), Below.trans H3.out.2.2.2 (below_of_grown g3 (by omega) H3.out.2.2.2.size)⟩
      clear H3 g1 g2 g3 f0
      by_cases hgt : g i < (firstB g bigN i).1
      · have e : firstB g bigN (i + 1) = (g i, i) := by simp only [firstB, if_pos hgt]
        go_wp2_with fail
        go_round
        case measure =>
          simp only [intOf]
          omega
        exact ⟨i + 1, by omega, rfl, by rw [e], by rw [e], ⟨lp4, H4.out.1, H4.out.2.1⟩, H4.out.2.2.1, H4.out.2.2.2⟩
      · have e : firstB g bigN (i + 1) = firstB g bigN i := by simp only [firstB, if_neg hgt]
        go_wp2_with fail
        go_round
        case measure =>
          simp only [intOf]
          omega
        exact ⟨i + 1, by omega, rfl, by rw [e], by rw [e], ⟨lp4, H4.out.1, H4.out.2.1⟩, H4.out.2.2.1, H4.out.2.2.2⟩
    · obtain rfl : i = n := by omega
      obtain ⟨bi, hbi⟩ : ∃ bi, bi = (firstB g bigN i).2 := ⟨_, rfl⟩
      obtain ⟨bv, hbv⟩ : ∃ bv, bv = (firstB g bigN i).1 := ⟨_, rfl⟩
      rw [← hbi, ← hbv]
      have HBI := Lib.hid (And.intro hbi hbv)
      clear hbi hbv
      have h5 := H3.out.2.2.1.alloc (.cells #[vi bi] 3)
      have r0 := h5.at 0 (v := vi 0) rfl
      have r1 := h5.at 1 (v := .slice none 0 0) rfl
      have rf0 := h5.free 0
      have rf1 := h5.free 1
      have h6 := h5.set 0 (vi k)
      have u1 := h6.at 1 (v := .slice none 0 0) rfl
      have uf1 := h6.free 1
      clear h5 h6
      clear f0
      go_upto_region 15 with fail
      have HE : Hid (RsM (rpOf s f t z w.heap.size) lp (((wr.alloc (.cells #[vi bi] 3)).setCell ⟨w.heap.size + 1 + 1, 0, none⟩ (vi k)).setCell ⟨w.heap.size + 1 + 1, 1, none⟩ (.slice (some ⟨wr.heap.size, 0, none⟩) 1 1)) ∧ Whole (((wr.alloc (.cells #[vi bi] 3)).setCell ⟨w.heap.size + 1 + 1, 0, none⟩ (vi k)).setCell ⟨w.heap.size + 1 + 1, 1, none⟩ (.slice (some ⟨wr.heap.size, 0, none⟩) 1 1)) (w.heap.size + 1 + 1) 39 #[vi k, .slice (some ⟨wr.heap.size, 0, none⟩) 1 1] ∧ Whole (((wr.alloc (.cells #[vi bi] 3)).setCell ⟨w.heap.size + 1 + 1, 0, none⟩ (vi k)).setCell ⟨w.heap.size + 1 + 1, 1, none⟩ (.slice (some ⟨wr.heap.size, 0, none⟩) 1 1)) wr.heap.size 3 #[vi bi] ∧ newer w (((wr.alloc (.cells #[vi bi] 3)).setCell ⟨w.heap.size + 1 + 1, 0, none⟩ (vi k)).setCell ⟨w.heap.size + 1 + 1, 1, none⟩ (.slice (some ⟨wr.heap.size, 0, none⟩) 1 1))) := Lib.hid (by
        have a0 := newer_allocH wr (.cells #[vi bi] 3)
        have a1 := H3.out.1.next a0
        have a2 : (wr.alloc (.cells #[vi bi] 3)).grownBy (((wr.alloc (.cells #[vi bi] 3)).setCell ⟨w.heap.size + 1 + 1, 0, none⟩ (vi k)).setCell ⟨w.heap.size + 1 + 1, 1, none⟩ (.slice (some ⟨wr.heap.size, 0, none⟩) 1 1)) (some (w.heap.size + 1 + 1)) := grown_set (p := ⟨w.heap.size + 1 + 1, 1, none⟩) (grown_set (p := ⟨w.heap.size + 1 + 1, 0, none⟩) (grown_refl _ _) (.inl rfl) _) (.inl rfl) _
        have a3 := H3.out.2.2.1.lt
        have a4 := H3.out.2.2.2
        refine ⟨a1.far a2 (by simp only []; omega) (by simp only []; omega) (by simp only []; omega) (by simp only []; omega) (by simp only []; omega) (by simp only []; omega) (by simp only []; omega), ((H3.out.2.2.1.alloc (.cells #[vi bi] 3)).set 0 (vi k)).set 1 (.slice (some ⟨wr.heap.size, 0, none⟩) 1 1), (Whole.made wr 3 #[vi bi]).grown a2 (fun e => by injection e; omega), Below.trans (newer_trans a4 a0) (below_of_grown a2 (by omega) (Nat.le_trans a4.size a0.size))⟩)
      have HGD := Lib.hid H3.out.2.1
      have HWR := Lib.hid (show w.heap.size + 7 ≤ wr.heap.size from H3.out.1.fl.lt)
      have HQ := Lib.hid (show w.heap.size + 1 + 1 < wr.heap.size from H3.out.2.2.1.lt)
      clear H3 r0 r1 rf0 rf1 u1 uf1
      refine genQ (fun X => RsM (rpOf s f t z w.heap.size) lp X ∧ Whole X (w.heap.size + 1 + 1) 39 #[vi k, .slice (some ⟨wr.heap.size, 0, none⟩) 1 1] ∧ Whole X wr.heap.size 3 #[vi bi] ∧ newer w X) HE.out ?_
      clear HE
      rintro w5 ⟨hm, hr, hq, hn⟩
      have HW5 := Lib.hid (And.intro hm (And.intro hr (And.intro hq hn)))
      clear hm hr hq hn
      have hbn : bi < i := by
        have h1 := (first_is (f := g) (big := bigN) i).2.2
        rw [HBI.out.1]
        rcases h1 with h1 | h1
        · rw [h1]
          show 0 < i
          have := HSD.out.beds
          have := HN.out
          omega
        · exact h1.1
      obtain ⟨q0, hq0⟩ : ∃ q0, q0 = wr.heap.size := ⟨_, rfl⟩
      go_upto_region 16 with fail
      refine wp_loop (ChR s f t z k m bi bv w) (fun a _ => m - a.defers.length) ?_ ?_
      · refine ChR.intro k 0 [] [] bi w5.heap.size wr.heap.size 1 lp _ _ _ _ _ _ _ _ _ _ _ _ _ _ _ _ _ _ _ _ _ _ _ _ _ _ _ _ _ _ _ _ _ _ _ _ _ _ _ _ _ _ _ _ _ _ _ _ _ _ _ _ _ _ _ _ _ _ _ _ _ _ _ _ _ _ _ _ _ _ _ ?_
        have h5 := HW5.out
        have e1 := newer_allocH w5 (.cells #[vi k, vi bi] 162)
        have e2 := HQ.out
        have hwr := HWR.out
        refine ⟨h5.1.next e1, HGD.out, ⟨h5.2.1.below e1 h5.2.1.lt, ⟨by simp, .inr ⟨wr.heap.size, 1, #[vi bi], rfl, hwr, h5.2.2.1.below e1 h5.2.2.1.lt, Nat.le_refl _, by unfold maxLen; omega, by simp, by simp⟩⟩, Whole.made w5 162 #[vi k, vi bi], newer_trans h5.2.2.2 e1, ⟨List.nodup_nil, by simp⟩, ?_, by simp, rfl⟩, rfl, Nat.zero_le _, ?_, by simp, rfl, rfl⟩
        · have := h5.2.2.1.lt
          omega
        · show bi < s.sd.n
          rw [← HN.out]
          exact hbn
      · intro a W hJ
        refine ChR.elim hJ ?_
        clear hJ
        intro c j Ds acc cur pb q cc lp z4 z12 z13 z15 z16 z17 z18 z19 z20 z21 z22 z23 z24 z25 z26 z27 z28 z29 z30 z31 z32 z33 z34 z35 z36 z37 z38 z39 z40 z41 z42 z43 z44 z45 z46 z47 z48 z49 z50 z51 z52 z53 z54 z55 z56 z57 z58 z59 z60 z61 z62 z63 z64 z65 z66 z67 z68 z69 z70 z71 z72 z73 z74 z75 z76 z77 z78 z79 z80 z81 z82 hJ hal
        have HAL := Lib.hid hal
        clear hal
        have hjm := hJ.jm
        have hcn := hJ.cn
        have HJ := Lib.hid hJ
        have s0 := hJ.ch.st.at 0 (v := vi c) rfl
        have s1 := hJ.ch.st.at 1 (v := vi cur) rfl
        have t0 := hJ.me.tl.at 0 (v := vi z) rfl
        clear hJ
        by_cases hlt : j < m
        · have hcz : (c : Int) < z := by have := HZ.out; have := HJ.out.ck; omega
          have hcb : c ≤ 12 := by have h1 := HSD.out.cols; have h2 : z < s.cs.length := HT.out.zl; have h3 := sd_len s; omega
          have HK := Lib.hid (And.intro hlt (And.intro hcn hbn))
          have l0 := HJ.out.me.xl.at 0 (v := .slice s.a s.cs.length s.c) rfl
          have l1 := HJ.out.me.xl.at 1 (v := vi s.least) rfl
          have l2 := HJ.out.me.xl.at 2 (v := vi f) rfl
          have l3 := HJ.out.me.xl.at 3 (v := .func (.func (trF t)) #[] #[]) rfl
          go_upto_region 18 with fail
          obtain ⟨ce, hce⟩ : ∃ ce, ce = c + 1 := ⟨_, rfl⟩
          rw [show (c : Int) + 1 = (ce : Nat) by omega]
          have HCE := Lib.hid hce
          have HL := Lib.hid HJ.out.ch.lts
          have hn1 : newer W (W.alloc (.cells #[vi ce, vi cur] 162)) := newer_allocH _ _
          have HX := Lib.hid (show RsM (rpOf s f t z w.heap.size) lp (W.alloc (.cells #[vi ce, vi cur] 162)) ∧ ChS w.heap.size k c j Ds acc cur pb q cc w (W.alloc (.cells #[vi ce, vi cur] 162)) ∧ Whole (W.alloc (.cells #[vi ce, vi cur] 162)) W.heap.size 162 #[vi ce, vi cur] from ⟨HJ.out.me.next hn1, HJ.out.ch.next hn1, Whole.made _ _ _⟩)
          have HI := Lib.hid (And.intro HJ.out.gd (And.intro HJ.out.ln (And.intro HJ.out.pa (And.intro HJ.out.dl HJ.out.ck))))
          clear hn1 s0 s1 t0 l0 l1 l2 l3 hce HJ
          refine genQ (fun X => RsM (rpOf s f t z w.heap.size) lp X ∧ ChS w.heap.size k c j Ds acc cur pb q cc w X ∧ Whole X W.heap.size 162 #[vi ce, vi cur]) HX.out ?_
          clear HX
          obtain ⟨sb, hsb⟩ : ∃ sb, sb = W.heap.size := ⟨_, rfl⟩
          rw [← hsb] at HL ⊢
          clear hsb W
          rintro w6 ⟨hm6, hc6, hs6⟩
          have s1 := hc6.st.at 1 (v := vi cur) rfl
          have l0 := hm6.xl.at 0 (v := .slice s.a s.cs.length s.c) rfl
          have l1 := hm6.xl.at 1 (v := vi s.least) rfl
          have l2 := hm6.xl.at 2 (v := vi f) rfl
          have l3 := hm6.xl.at 3 (v := .func (.func (trF t)) #[] #[]) rfl
          have H6 := Lib.hid (And.intro hm6 (And.intro hc6 hs6))
          clear hm6 hc6 hs6
          go_wp2_with fail
          refine (next_any s f t cur _).mono ?_
          rintro e w7 ⟨rfl, hw7⟩
          have H7 : Hid (RsM (rpOf s f t z w.heap.size) lp w7 ∧ ChS w.heap.size k c j Ds acc cur pb q cc w w7 ∧ Whole w7 sb 162 #[vi ce, vi cur] ∧ Whole w7 (w6.heap.size + 1) 3 #[vi cur] ∧ Whole w7 w6.heap.size 115 (lkC s f t) ∧ sb < w6.heap.size) := Lib.hid (by
            have e1 : newer w6 (w6.alloc (.cells (lkC s f t) 115)) := newer_allocH _ _
            have e2 : newer (w6.alloc (.cells (lkC s f t) 115)) w7 := hw7 ▸ newer_allocH _ _
            have e3 := newer_trans e1 e2
            obtain ⟨a1, a2, a3⟩ := H6.out
            refine ⟨a1.next e3, a2.next e3, a3.below e3 a3.lt, ?_, ?_, a3.lt⟩
            · rw [← hw7]
              have e5 := Whole.made (w6.alloc (.cells (lkC s f t) 115)) 3 #[vi cur]
              rw [World.size_alloc] at e5
              exact e5
            · have e4 := Whole.made w6 115 (lkC s f t)
              exact e4.below e2 e4.lt)
          obtain ⟨lb, hlb⟩ : ∃ lb, lb = w6.heap.size := ⟨_, rfl⟩
          rw [← hlb] at H7 ⊢
          clear hlb hw7 H6 s1 l0 l1 l2 l3
          go_wp2_with fail
          obtain ⟨bb, hbb⟩ : ∃ bb, bb = lb + 1 := ⟨_, rfl⟩
          have HBB := Lib.hid hbb
          have hxn : x.beds.length ≤ 1000 := by have h1 := HSD.out.beds; have h2 := HX.out.2; omega
          obtain ⟨N, hN⟩ : ∃ N, N = sb := ⟨_, rfl⟩
          refine (wpIn_wide (n := 9)).1 (range_law (gf := 115) (lb := #[.pointer (some ⟨lb + 1, 0, none⟩), .pointer (some ⟨lb, 0, none⟩)]) rfl (enters_of Try.func115 (by kernel_rfl) rfl) ?_)
          intro r0 r1 r2 r3 r4 r5 r6
          rw [← hbb]
          have hcn2 : cur < x.beds.length := by rw [HX.out.2]; exact hcn
          refine (callsIn_wide.1 (next_in 8 (w7.heap.size + 1) bb lb s f t x cur HX.out.1 hcn2 hxn (fun i2 W => BsJ s f t z w.heap.size k c ce j Ds acc cur pb q cc sb lb bb w7.heap.size N (bestK (rpOf s f t z w.heap.size).c (rpOf s f t z w.heap.size).n (z - ce) c cur i2) r0 w W) ?hJ ?hN ?hY _ ?h0)).mono ?_
          case hJ =>
            intro i2 W hj
            obtain ⟨_, g1, _⟩ := hj.me
            exact ⟨hj.bx, hj.lx, g1.at_.ok⟩
          case hN => exact fun i2 W W' hj hb => hj.next hb
          case h0 =>
            have e1 := newer_trans (newer_allocH w7 (.deferred (some []))) (newer_allocH (w7.alloc (.deferred (some []))) (.loop r0))
            obtain ⟨a1, a2, a3, a4, a5, a6⟩ := H7.out
            have b4 : bb < w7.heap.size := by rw [hbb]; exact a4.lt
            refine ⟨⟨lp, a1.next e1, HI.out.1⟩, a2.next e1, a3.below e1 a3.lt, (hbb ▸ a4).below e1 b4, a5.below e1 a5.lt, ?_, ?_, by rw [hN]; exact HL.out, by omega⟩
            · simp only [heap_if, World.size_alloc]
              repeat rw [if_neg (by omega)]
              rfl
            · simp only [heap_if, World.size_alloc]
              repeat rw [if_neg (by omega)]
              rfl
          case hY =>
            intro i2 W hk hj
            rw [show ((loN cur : Nat) : Int) + (i2 : Int) = ((loN cur + i2 : Nat) : Int) from rfl]
            have hkn : loN cur + i2 < (rpOf s f t z w.heap.size).n := by
              show loN cur + i2 < s.sd.n
              rw [← HX.out.2]
              unfold cntN at hk
              unfold loN
              omega
            rw [HX.out.2] at hk
            rw [bestK_succ (show i2 < cntN (rpOf s f t z w.heap.size).n cur from hk)]
            obtain ⟨bk, hbk0⟩ : ∃ bk, bk = bestK (rpOf s f t z w.heap.size).c (rpOf s f t z w.heap.size).n (z - ce) c cur i2 := ⟨_, rfl⟩
            have hbk : bk < (rpOf s f t z w.heap.size).n := by rw [hbk0]; exact bestK_lt hcn
            rw [← hbk0] at hj ⊢
            clear hbk0
            have HRC : Hid (∀ (j : Nat) lp W, j < (rpOf s f t z w.heap.size).n → RsM (rpOf s f t z w.heap.size) lp W → Good (rpOf s f t z w.heap.size) lp → Calls Try.prog 114 (#[.agg #[vi ce, vi j]] ++ rpA (rpOf s f t z w.heap.size)) W fun e W' => e = .returned (vi (restN (rpOf s f t z w.heap.size).c (rpOf s f t z w.heap.size).n bigN (z - ce) ce j)) ∧ ∃ lp', RsM (rpOf s f t z w.heap.size) lp' W' ∧ Good (rpOf s f t z w.heap.size) lp' ∧ W.grownBy W' (some (w.heap.size + 1 + 1 + 1))) := Lib.hid (fun j lp W hj h1 h2 => rest_any (rpOf s f t z w.heap.size) HT.out (z - ce) ce j lp W (by have := HCE.out; show ce + (z - ce) = z; omega) hj h1 h2)
            rw [← HCE.out]
            obtain ⟨rv, hrv⟩ : ∃ rv, rv = restN (rpOf s f t z w.heap.size).c (rpOf s f t z w.heap.size).n bigN (z - ce) ce (loN cur + i2) := ⟨_, rfl⟩
            have RVH := Lib.hid hrv
            obtain ⟨rb, hrb⟩ : ∃ rb, rb = restN (rpOf s f t z w.heap.size).c (rpOf s f t z w.heap.size).n bigN (z - ce) ce bk := ⟨_, rfl⟩
            have RBH := Lib.hid hrb
            rw [← hrv, ← hrb]
            clear hrv hrb
            obtain ⟨bn, hbn2⟩ : ∃ bn, bn = if rv < rb then loN cur + i2 else bk := ⟨_, rfl⟩
            have HBN := Lib.hid hbn2
            rw [← hbn2]
            clear hbn2
            clear hbb hN
            refine yield_round (r := r0) hj.lo r1 r2 (by rw [r4]; rfl) ?_
            rw [r3, r4, r5, r6]
            simp only [List.zip_toArray, List.zip_cons_cons, List.zip_nil_right, List.foldl_toArray, List.foldl_cons, List.foldl_nil, List.setIfInBounds_toArray, List.set_cons_zero, List.set_cons_succ]
            gi_wp2_with fail
            refine ⟨hj.lo, ?_⟩
            have hj5 := hj.put (busyOf r0)
            obtain ⟨w8, hw8⟩ : ∃ w8, w8 = W.putObj (w7.heap.size + 1) (.loop (busyOf r0)) := ⟨_, rfl⟩
            rw [← hw8] at hj5 ⊢
            clear hw8 hj W
            obtain ⟨D, hD⟩ : ∃ D, D = w7.heap.size := ⟨_, rfl⟩
            rw [← hD] at hj5 ⊢
            have HJ := Lib.hid hj5
            have c62 : IntKind.i64.wrap ((c : Int) + 1) = (ce : Int) := by have h := HCE.out; rw [show (c : Int) + 1 = ce by omega]; exact IntWalk.i64_in _ (by omega)
            clear hj5 r1 r2 r3 r4 r5 r6 hD H7
            gi_wp2_with fail
            refine round_words (by kernel_rfl) (by kernel_rfl) (fun _ _ h => h) (region_told 10 (by kernel_rfl) (by kernel_rfl) (BsJ s f t z w.heap.size k c ce j Ds acc cur pb q cc sb lb bb D N bk (busyOf r0) w) (fun A B => A.grownBy B (some (w.heap.size + 1 + 1 + 1))) (pickD [vIs (.func (.func 114) #[] (rpA (rpOf s f t z w.heap.size))), vIs (.pointer (some ⟨pb, 0, none⟩)), vIs (vi c), vIs (vi ce), vIs (vi (loN cur + i2 : Nat)), vIs (.agg #[vi ce, vi (loN cur + i2 : Nat)]), vIs (vi rv), vIs (.func (.func 114) #[] (rpA (rpOf s f t z w.heap.size))), vIs (.agg #[vi ce, vi bk]), vIs (vi rb)]) (fun h k => grown_trans h k) (pickD_stable _ ⟨vIsG, vIsG, vIsG, vIsG, vIsG, vIsG, vIsG, vIsG, vIsG, vIsG, trivial⟩) (HJ.out.next (newer_drew_ _)) (grown_refl _ _) ?_ ?_)
            · refine ⟨?_, ?_, ?_, ?_, ?_, ?_, ?_, ?_, ?_, ?_, trivial⟩
              · intro a W hG hR hO hp
                have h10 := hO.slot 10 (by kernel_rfl)
                obtain ⟨lp, hM, hgd⟩ := hG.me
                have c0 := hM.fl.at 0 (v := .func (.func 114) #[] (rpA (rpOf s f t z w.heap.size))) rfl
                refine wp_yields (v := .func (.func 114) #[] (rpA (rpOf s f t z w.heap.size))) ?_ ⟨_, rfl, rfl, grown_refl _ _, hG⟩
                simp [slotOf] at h10
                simp [execOp, go_sem, h10, c0]
              · intro a W hG hR hO hp
                have h14 := hO.slot 14 (by kernel_rfl)
                refine wp_yields (v := .pointer (some ⟨pb, 0, none⟩)) ?_ ⟨_, rfl, rfl, grown_refl _ _, hG⟩
                simp [slotOf] at h14
                simp [execOp, go_sem, h14]
              · intro a W hG hR hO hp
                have h60 : slotOf a 60 = .pointer (some ⟨pb, 0, none⟩) := hp.1
                have c0 := hG.ch.st.at 0 (v := vi c) rfl
                refine wp_yields (v := vi c) ?_ ⟨_, rfl, rfl, grown_refl _ _, hG⟩
                simp [slotOf] at h60
                simp [execOp, go_sem, h60, c0]
              · intro a W hG hR hO hp
                have h61 : slotOf a 61 = vi c := hp.1
                refine wp_yields (v := vi ce) ?_ ⟨_, rfl, rfl, grown_refl _ _, hG⟩
                simp [slotOf] at h61
                simp [execOp, go_sem, h61, c62]
              · intro a W hG hR hO hp
                have h16 := hO.slot 16 (by kernel_rfl)
                refine wp_yields (v := vi (loN cur + i2 : Nat)) ?_ ⟨_, rfl, rfl, grown_refl _ _, hG⟩
                simp [slotOf] at h16
                simp [execOp, go_sem, h16]
              · intro a W hG hR hO hp
                have h62 : slotOf a 62 = vi ce := hp.1
                have h63 : slotOf a 63 = vi (loN cur + i2 : Nat) := hp.2.1
                refine wp_yields (v := .agg #[vi ce, vi (loN cur + i2 : Nat)]) ?_ ⟨_, rfl, rfl, grown_refl _ _, hG⟩
                simp [slotOf] at h62 h63
                simp [execOp, go_sem, h62, h63]
              · intro a W hG hR hO hp
                have h59 : slotOf a 59 = .func (.func 114) #[] (rpA (rpOf s f t z w.heap.size)) := hp.1
                have h64 : slotOf a 64 = .agg #[vi ce, vi (loN cur + i2 : Nat)] := hp.2.1
                obtain ⟨lp, hM, hgd⟩ := hG.me
                have hcc := HRC.out (loN cur + i2) lp W hkn hM hgd
                rw [← RVH.out] at hcc
                obtain ⟨ar, har⟩ : ∃ ar, ar = #[.agg #[vi ce, vi ((loN cur + i2) : Nat)]] ++ rpA (rpOf s f t z w.heap.size) := ⟨_, rfl⟩
                rw [← har] at hcc
                refine wp_enters (f := 114) (args := ar) ?_ (hcc.mono ?_)
                · simp [slotOf] at h59 h64
                  rw [har]
                  simp [execOp, go_sem, h59, h64]
                · rintro e w' ⟨rfl, lp2, g1, g2, g3⟩
                  exact ⟨_, rfl, _, rfl, rfl, g3, hG.back g3 ⟨lp2, g1, g2⟩⟩
              · intro a W hG hR hO hp
                have h10 := hO.slot 10 (by kernel_rfl)
                obtain ⟨lp, hM, hgd⟩ := hG.me
                have c0 := hM.fl.at 0 (v := .func (.func 114) #[] (rpA (rpOf s f t z w.heap.size))) rfl
                refine wp_yields (v := .func (.func 114) #[] (rpA (rpOf s f t z w.heap.size))) ?_ ⟨_, rfl, rfl, grown_refl _ _, hG⟩
                simp [slotOf] at h10
                simp [execOp, go_sem, h10, c0]
              · intro a W hG hR hO hp
                have h15 := hO.slot 15 (by kernel_rfl)
                have c0 := hG.sp.at 0 (v := vi ce) rfl
                have c1 := hG.sp.at 1 (v := vi bk) rfl
                refine wp_yields (v := .agg #[vi ce, vi bk]) ?_ ⟨_, rfl, rfl, grown_refl _ _, hG⟩
                simp [slotOf] at h15
                simp [execOp, go_sem, h15, c0, c1]
              · intro a W hG hR hO hp
                have h66 : slotOf a 66 = .func (.func 114) #[] (rpA (rpOf s f t z w.heap.size)) := hp.1
                have h67 : slotOf a 67 = .agg #[vi ce, vi bk] := hp.2.1
                obtain ⟨lp, hM, hgd⟩ := hG.me
                have hcc := HRC.out bk lp W hbk hM hgd
                rw [← RBH.out] at hcc
                obtain ⟨ar, har⟩ : ∃ ar, ar = #[.agg #[vi ce, vi (bk : Nat)]] ++ rpA (rpOf s f t z w.heap.size) := ⟨_, rfl⟩
                rw [← har] at hcc
                refine wp_enters (f := 114) (args := ar) ?_ (hcc.mono ?_)
                · simp [slotOf] at h66 h67
                  rw [har]
                  simp [execOp, go_sem, h66, h67]
                · rintro e w' ⟨rfl, lp2, g1, g2, g3⟩
                  exact ⟨_, rfl, _, rfl, rfl, g3, hG.back g3 ⟨lp2, g1, g2⟩⟩
            · intro W hG hR
              rintro _ rfl _ rfl _ rfl _ rfl _ rfl _ rfl _ rfl _ rfl _ rfl _ rfl
              change wpList _ _ _ _ _ _
              simp only [Act.put, List.setIfInBounds_toArray, List.set_cons_zero, List.set_cons_succ, List.drop_succ_cons, List.drop_zero]
              have HJ2 := Lib.hid hG
              clear hG hR HJ c62
              obtain ⟨w9, hw9⟩ : ∃ w9, w9 = W := ⟨_, rfl⟩
              rw [← hw9] at HJ2 ⊢
              clear hw9 W
              by_cases hgt : rv < rb
              · have e1 := HJ2.out.sp.at 1 (v := vi bk) rfl
                have e2 := HJ2.out.sp.free 1
                have hsc := setCell_same e1
                have HX8 := Lib.hid (And.intro (HJ2.out.set (loN cur + i2)).lo ((HJ2.out.set (loN cur + i2)).put r0))
                have HE := Lib.hid (show bn = loN cur + i2 by rw [HBN.out, if_pos hgt])
                go_wp2_with fail
                refine onlyN_intro ?_
                gi_wp2_with fail
                exact ⟨HX8.out.1, rfl, HE.out ▸ HX8.out.2⟩
              · have HX8 := Lib.hid (And.intro HJ2.out.lo (HJ2.out.put r0))
                have HE := Lib.hid (show bn = bk by rw [HBN.out, if_neg hgt])
                go_wp2_with fail
                refine onlyN_intro ?_
                gi_wp2_with fail
                exact ⟨HX8.out.1, rfl, HE.out ▸ HX8.out.2⟩
          · rintro e W ⟨⟨v, rfl⟩, hj⟩
            refine ⟨⟨_, rfl⟩, .inl ⟨hj.lo, ?_⟩⟩
            rw [HX.out.2, show s.sd.n = (rpOf s f t z w.heap.size).n from rfl, bestK_all] at hj
            obtain ⟨nx, hnx⟩ : ∃ nx, nx = stepB (rpOf s f t z w.heap.size).c (rpOf s f t z w.heap.size).n bigN (z - ce) c cur := ⟨_, rfl⟩
            rw [← hnx] at hj
            have HNX := Lib.hid hnx
            have hnn : nx < (rpOf s f t z w.heap.size).n := by rw [hnx]; exact (step_mem hcn).1
            obtain ⟨D, hD⟩ : ∃ D, D = w7.heap.size := ⟨_, rfl⟩
            rw [← hD] at hj ⊢
            have hj5 := hj.put (overOf r0)
            obtain ⟨we, hwe⟩ : ∃ we, we = W.putObj (D + 1) (.loop (overOf r0)) := ⟨_, rfl⟩
            rw [← hwe] at hj5 ⊢
            obtain ⟨⟨lp3, q1, q2⟩, q3, q4, _, _, q5, _, q6, q7, q8, q9, q10⟩ := hj5
            have hne : D ∉ Ds := fun hm => by have := q6.d _ hm; omega
            have HGD3 := Lib.hid q2
            have HA : Hid (ApJ s f t z w.heap.size k c ce j (D :: Ds) acc cur pb q cc sb nx we.heap.size lp3 w 0 we) := Lib.hid (by
              have a1 := q6.p
              have a2 := q6.q
              have a3 := q6.n
              have a4 := q3.pbb
              have a5 := q3.qge
              have a6 := q4.lt
              have a7 : pb ∉ Ds := q3.ms.far q3.st
              have a8 : q ∉ Ds := fun hm => by
                have e1 := own_whole q3.row
                obtain ⟨tt, cs, e1⟩ := e1
                exact q3.ms.far e1 hm
              refine ⟨q1, q3.st, q4, q3.nw, ⟨List.nodup_cons.2 ⟨hne, q3.ms.nd⟩, fun E hE => ?_⟩, Nat.le_refl _, fun _ => q3.hr, fun _ => q3.row, fun e => by omega, a4, a5, by omega, fun E hE => ?_, ?_, by omega, by omega, ?_, ?_, q3.wb, by omega, by omega⟩
              · rcases List.mem_cons.1 hE with rfl | hE
                · exact q5
                · exact q3.ms.at_ E hE
              · rcases List.mem_cons.1 hE with rfl | hE
                · omega
                · exact q3.ge E hE
              · intro e
                exact own_ne q3.row q3.st (by decide) (by rw [← e]; rfl)
              · rw [List.mem_cons, not_or]
                exact ⟨by omega, a8⟩
              · rw [List.mem_cons, not_or]
                exact ⟨by omega, a7⟩)
            have HQL := Lib.hid (show q < we.heap.size ∧ w.heap.size + 7 ≤ we.heap.size from ⟨HA.out.lo.2.2.2.2.2.2.2.2.2.2.1, HA.out.lo.2.2.2.2.2.2.2.2.2.2.2⟩)
            have HJ12 : Hid (j ≤ 12) := Lib.hid (by have := HI.out.2.2.2.2; omega)
            have HNN := Lib.hid hnn
            clear hj r1 r2 r3 r4 r5 r6 q1 q2 q3 q4 q5 q6 q7 q8 q9 q10 hwe hne hnx hD hnn H7 hbb hN HL hcn2 hxn
            go_upto_region 22 with fail
            refine wp_words (by kernel_rfl) (region_steps 9 5 8 (by kernel_rfl) (by kernel_rfl) (by kernel_rfl) (by decide) (by decide) (by decide) (ApJ s f t z w.heap.size k c ce j (D :: Ds) acc cur pb q cc sb nx we.heap.size lp3 w) (fun W W' => W.grownBy W' (some q)) (fun W W' => W.grownBy W' (some (w.heap.size + 1 + 1))) (pickD [vIs (.pointer (some ⟨w.heap.size + 1 + 1, 1, none⟩)), vIs (.slice (some ⟨q, 0, none⟩) (j + 1) cc), vIs (.pointer (some ⟨sb, 1, none⟩)), vIs (vi nx), vCell we.heap.size nx, vOwnJ w.heap.size (j + 1 + 1) (acc ++ [cur] ++ [nx]), vIs (.agg #[vi ce, vi nx]), vIs (.pointer (some ⟨w.heap.size + 1 + 1, 1, none⟩)), fun _ _ => True]) ?_ (fun sg W W' h hb => h.next hb) ?_ ?_ (HA.out.next (newer_drew_ _)) ⟨?_, ?_, ?_, ?_, ?_, ?_, ?_, ?_, ?_, trivial⟩ ?_)
            · intro i v W W' hD hR
              match i, hD with
              | 0, h => exact h
              | 1, h => exact h
              | 2, h => exact h
              | 3, h => exact h
              | 4, h => exact (by obtain ⟨g, h1, h2, h3⟩ := h; exact ⟨g, h1, h2, h3.below hR h3.lt⟩)
              | 5, h => obtain ⟨g, c', h1, h2⟩ := h; exact ⟨g, c', h1, own_below h2 hR⟩
              | 6, h => exact h
              | 7, h => exact h
              | 8, _ => trivial
              | (_ + 9), _ => trivial
            · intro i v W W' hi hD hR
              match i, hD with
              | 0, h => exact h
              | 1, h => exact h
              | 2, h => exact h
              | 3, h => exact h
              | 4, h => exact vCell_far HQL.out.1 h hR
              | 5, h => exact absurd rfl hi
              | 6, h => exact h
              | 7, h => exact h
              | 8, _ => trivial
              | (_ + 9), _ => trivial
            · intro i v W W' hD hR
              match i, hD with
              | 0, h => exact h
              | 1, h => exact h
              | 2, h => exact h
              | 3, h => exact h
              | 4, h => exact vCell_far (by have := HQL.out; omega) h hR
              | 5, h => exact vOwnJ_far (by omega) h hR
              | 6, h => exact h
              | 7, h => exact h
              | 8, _ => trivial
              | (_ + 9), _ => trivial
            · intro s9 a W hs hG hO hp
              have h6 := hO.slot 6 (by kernel_rfl)
              refine wp_yields (v := .pointer (some ⟨w.heap.size + 1 + 1, 1, none⟩)) ?_ ⟨_, rfl, rfl, Below.refl _ _⟩
              simp [slotOf] at h6
              simp [execOp, go_sem, h6]
            · intro a W hG hO hp
              have h72 := (show slotOf a 72 = .pointer (some ⟨w.heap.size + 1 + 1, 1, none⟩) from hp.1)
              have c0 := (hG.hr (by omega)).at 1 (v := .slice (some ⟨q, 0, none⟩) (j + 1) cc) rfl
              refine wp_yields (v := .slice (some ⟨q, 0, none⟩) (j + 1) cc) ?_ ⟨_, rfl, rfl, Below.refl _ _⟩
              simp [slotOf] at h72
              simp [execOp, go_sem, h72, c0]
            · intro s9 a W hs hG hO hp
              have h15 := hO.slot 15 (by kernel_rfl)
              refine wp_yields (v := .pointer (some ⟨sb, 1, none⟩)) ?_ ⟨_, rfl, rfl, Below.refl _ _⟩
              simp [slotOf] at h15
              simp [execOp, go_sem, h15]
            · intro s9 a W hs hG hO hp
              have h74 := (show slotOf a 74 = .pointer (some ⟨sb, 1, none⟩) from hp.1)
              have c0 := hG.sp.at 1 (v := vi nx) rfl
              refine wp_yields (v := vi nx) ?_ ⟨_, rfl, rfl, Below.refl _ _⟩
              simp [slotOf] at h74
              simp [execOp, go_sem, h74, c0]
            · intro a W hG hO hp
              have h75 : slotOf a 75 = vi nx := hp.1
              refine wp_makes (v := .slice (some ⟨W.heap.size, 0, none⟩) 1 1) (W' := W.alloc (.cells #[vi nx] 3)) ?_ ⟨_, rfl, ⟨_, rfl, hG.sz, Whole.made _ _ _⟩, newer_allocH _ _⟩
              simp [slotOf] at h75
              simp [execOp, go_sem, h75]
            · intro a W hG hO hp
              have h73 : slotOf a 73 = .slice (some ⟨q, 0, none⟩) (j + 1) cc := hp.1
              obtain ⟨g1, h76, hg1, hg2⟩ := hp.2.1
              obtain ⟨i0, hi, hz0, hz1, hz2⟩ := info_parts info_int
              refine wp_append_one (.tmp 73) (.tmp 76) 25 rfl (w.heap.size + 7) 3 i0 (.int .i64 0) 8 Try.underlying25 hi hz0 hz1 hz2 rfl _ (j + 1) cc _ ((eval_slot a 73).trans h73) (hG.ow rfl) _ 1 (vi nx) ((eval_slot a 76).trans h76) (hg2.at 0 rfl) rfl ?_ ?_ ?_ ?_
              · have h1 := HJ12.out
                unfold maxLen
                omega
              · have h1 := HJ12.out
                omega
              · have h1 := hG.sz
                have h2 := HQL.out
                omega
              · intro g c' W' hown hwhere
                have hgr : W.grownBy W' (some q) := by
                  rcases hwhere with ⟨h1, _, h3⟩ | ⟨_, h3⟩
                  · injection h1 with h1
                    injection h1 with h1
                    rw [h1]
                    exact h3
                  · exact h3.but _
                refine ⟨_, rfl, ⟨g, c', rfl, by simpa using hown⟩, hgr, hG.app hgr⟩
            · intro s9 a W hG hO hp
              have h15 := hO.slot 15 (by kernel_rfl)
              have c0 := hG.sp.at 0 (v := vi ce) rfl
              have c1 := hG.sp.at 1 (v := vi nx) rfl
              refine wp_yields (v := .agg #[vi ce, vi nx]) ?_ ⟨_, rfl, rfl, Below.refl _ _⟩
              simp [slotOf] at h15
              simp [execOp, go_sem, h15, c0, c1]
            · intro s9 a W hs hG hO hp
              have h6 := hO.slot 6 (by kernel_rfl)
              refine wp_yields (v := .pointer (some ⟨w.heap.size + 1 + 1, 1, none⟩)) ?_ ⟨_, rfl, rfl, Below.refl _ _⟩
              simp [slotOf] at h6
              simp [execOp, go_sem, h6]
            · intro a W hG hO hp
              have h79 : slotOf a 79 = .pointer (some ⟨w.heap.size + 1 + 1, 1, none⟩) := hp.1
              obtain ⟨g, c', h77, hown⟩ := hp.2.1
              have hr := hG.hr (by omega)
              have b1 := hr.at 1 (v := .slice (some ⟨q, 0, none⟩) (j + 1) cc) rfl
              have f1 := hr.free 1
              have hpt := hG.put hown
              simp [slotOf] at h79 h77
              refine wp_stores (W' := W.setCell ⟨w.heap.size + 1 + 1, 1, none⟩ (.slice (some ⟨g, 0, none⟩) (j + 1 + 1) c')) (by simp [execOp, go_sem, h79, h77, b1, f1]) ⟨undef, rfl, trivial, grown_set (p := ⟨w.heap.size + 1 + 1, 1, none⟩) (grown_refl W _) (.inl rfl) _, hpt⟩
            · intro W hG
              rintro _ rfl _ rfl _ rfl _ rfl _ ⟨g1, rfl, -⟩ _ ⟨g2, c2, rfl, -⟩ _ rfl _ rfl
              change wpList _ _ _ _ _ _
              simp only [Act.put, List.setIfInBounds_toArray, List.set_cons_zero, List.set_cons_succ, List.drop_succ_cons, List.drop_zero]
              have p0 := hG.st.at 0 (v := vi c) rfl
              have p1 := hG.st.at 1 (v := vi cur) rfl
              have pf0 := hG.st.free 0
              have pf1 := hG.st.free 1
              have HE := Lib.hid hG.done
              clear hG
              go_upto_region 23 with fail
              obtain ⟨g3, c3, he⟩ := HE.out
              refine genQ (fun X => RsM (rpOf s f t z w.heap.size) lp3 X ∧ Whole X (w.heap.size + 1 + 1) 39 #[vi k, .slice (some ⟨g3, 0, none⟩) (j + 1 + 1) c3] ∧ X.ownsRow (w.heap.size + 7) 3 1 (.slice (some ⟨g3, 0, none⟩) (j + 1 + 1) c3) (j + 1 + 1) ((acc ++ [cur] ++ [nx]).map fun x : Nat => vi x) ∧ Whole X pb 162 #[vi ce, vi nx] ∧ newer w X ∧ MarksOk (D :: Ds) X ∧ w.heap.size + 7 ≤ X.heap.size ∧ (∀ E ∈ D :: Ds, w.heap.size + 7 ≤ E) ∧ w.heap.size = w.heap.size) he ?_
              clear he HE p0 p1 pf0 pf1 W
              rintro w10 ⟨k1, k2, k3, k4, k5, k6, k7, k8, k9⟩
              have p0 := k4.at 0 (v := vi ce) rfl
              have p1 := k4.at 1 (v := vi nx) rfl
              have HK2 := Lib.hid (And.intro k1 (And.intro k2 (And.intro k3 (And.intro k5 (And.intro k6 (And.intro k7 k8))))))
              clear k1 k2 k3 k4 k5 k6 k7 k8 k9
              go_wp2_with fail
              refine ⟨ChR.intro ce (j + 1) (D :: Ds) (acc ++ [cur]) nx w10.heap.size g3 c3 lp3 _ _ _ _ _ _ _ _ _ _ _ _ _ _ _ _ _ _ _ _ _ _ _ _ _ _ _ _ _ _ _ _ _ _ _ _ _ _ _ _ _ _ _ _ _ _ _ _ _ _ _ _ _ _ _ _ _ _ _ _ _ _ _ _ _ _ _ _ _ _ _ ?_, ?_⟩
              · obtain ⟨k1, k2, k3, k5, k6, k7, k8⟩ := HK2.out
                obtain ⟨i1, i2, i3, i4, i5⟩ := HI.out
                have e1 := newer_allocH w10 (.cells #[vi ce, vi nx] 162)
                have hzc : z - ce = m - (j + 1) := by have := HZ.out; have := HCE.out; omega
                refine ⟨k1.next e1, HGD3.out, ⟨k2.below e1 k2.lt, own_below k3 e1, Whole.made _ _ _, newer_trans k5 e1, k6.next e1, k7, k8, rfl⟩, by rw [List.length_append, i2]; rfl, hlt, HNN.out, ?_, by rw [List.length_cons, i4], by have := HCE.out; omega⟩
                rw [← i3, show m - j = (m - (j + 1)) + 1 by omega]
                simp only [pathB]
                rw [List.append_assoc, ← hzc, ← HNX.out, HCE.out]
                rfl
              · have h1 := HI.out.2.2.2.1
                have h2 := HAL.out
                simp
                omega
        · obtain rfl : j = m := by omega
          have hcz : ¬ ((c : Int) < z) := by have := HZ.out; have := HJ.out.ck; omega
          have r0 := HJ.out.ch.hr.at 0 (v := vi k) rfl
          have r1 := HJ.out.ch.hr.at 1 (v := .slice (some ⟨q, 0, none⟩) (j + 1) cc) rfl
          have rf0 := HJ.out.ch.hr.free 0
          have rf1 := HJ.out.ch.hr.free 1
          have hs0 := setCell_same r0
          have hs1 := setCell_same r1
          have HBV := Lib.hid (show bv = (cheapN (cF (hT t s.sd) (dAt s.sd) f) s.sd.n bigN j k).2 by rw [HBI.out.2, HGN.out, ← HN.out]; rfl)
          have HPA : Hid (acc ++ [cur] = (cheapN (cF (hT t s.sd) (dAt s.sd) f) s.sd.n bigN j k).1) := Lib.hid (by
            have h1 := HJ.out.pa
            rw [Nat.sub_self] at h1
            simp only [pathB] at h1
            rw [h1, HBI.out.1, HGN.out]
            show pathB (cF (hT t s.sd) (dAt s.sd) f) s.sd.n bigN j k _ = pathB (cF (hT t s.sd) (dAt s.sd) f) s.sd.n bigN j k (firstB (restN (cF (hT t s.sd) (dAt s.sd) f) s.sd.n bigN j k) bigN s.sd.n).2
            rw [← HN.out])
          go_wp2_with fail
          refine leaves_marks Ds _ HJ.out.ch.ms ?_
          intro W' h1 h2 h3 h4 h5
          have hr' := HJ.out.ch.hr.same (h5 _ (HJ.out.ch.ms.far HJ.out.ch.hr))
          have r0 := hr'.at 0 (v := vi k) rfl
          have r1 := hr'.at 1 (v := .slice (some ⟨q, 0, none⟩) (j + 1) cc) rfl
          have hq : q ∉ Ds := by
            obtain ⟨tt, cs, e1⟩ := own_whole HJ.out.ch.row
            exact HJ.out.ch.ms.far e1
          refine ⟨.tuple #[.agg #[vi k, .slice (some ⟨q, 0, none⟩) (j + 1) cc], vi bv], by simp [results, Try.results98, go_sem, r0, r1], q, cc, by rw [HBV.out], ?_, ?_⟩
          · have h6 := HJ.out.ch.nw
            refine ⟨h1.trans h6.os, h2.trans h6.tape, h3.trans h6.output, by rw [h4]; exact h6.size, fun x hx => ?_⟩
            exact (h5 x (fun hm => by have := HJ.out.ch.ge x hm; omega)).trans (h6.block x hx)
          · rw [← HPA.out]
            exact own_same (own_more HJ.out.ch.row (by omega)) (fun x hx => by
              have e2 : q = x := by simpa [Value.ownBlock] using hx
              rw [← e2]
              exact h5 q hq)
  all_goals
    trace_state
    sorry

end Go.Proofs.Ytkenokpobbichaa
