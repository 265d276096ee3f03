/- slices.Delete of one element of a row of one's own. -/
import Derived.Test.YtpmafnifgegfbaaAL2
import Derived.Test.YtpmafnifgegfbaaPG
import Derived.Deep.RegionLaw
import Derived.Lib.SliceRun
import Derived.BigQuiet
namespace Go.Proofs.Ytpmafnifgegfbaa
open Go.RowKit Go.Shelf Go.Deep

theorem setCells_whole {g : Nat} {t : TypeId} : ∀ (vs : List Value) (o : Nat) (W : World) (cs : Array Value), Whole W g t cs → o + vs.length ≤ cs.size → Whole (W.setCells g o vs) g t (cs.toList.take o ++ vs ++ cs.toList.drop (o + vs.length)).toArray
  | [], o, W, cs, h, _ => by
    rw [List.append_nil, List.length_nil, Nat.add_zero, List.take_append_drop, Array.toArray_toList]
    exact h
  | v :: vs, o, W, cs, h, hl => by
    simp only [List.length_cons] at hl
    have h1 := setCells_whole vs (o + 1) (W.setCell ⟨g, o, none⟩ v) (cs.setIfInBounds o v) (h.set o v) (by simp only [Array.size_setIfInBounds]; omega)
    have e : ((cs.setIfInBounds o v).toList.take (o + 1) ++ vs ++ (cs.setIfInBounds o v).toList.drop (o + 1 + vs.length)) = cs.toList.take o ++ v :: vs ++ cs.toList.drop (o + (vs.length + 1)) := by
      rw [Array.toList_setIfInBounds]
      have hol : o < cs.toList.length := by rw [Array.length_toList]; omega
      rw [List.drop_set_of_lt (by omega), List.take_succ_eq_append_getElem (by rw [List.length_set]; exact hol), List.getElem_set_self, List.take_set_of_le (Nat.le_refl _)]
      simp only [List.append_assoc, List.cons_append, List.nil_append]
      rw [show o + 1 + vs.length = o + (vs.length + 1) by omega]
    rw [e] at h1
    exact h1
theorem setCells_grown {g : Nat} : ∀ (vs : List Value) (o : Nat) (w W : World), w.grownBy W (some g) → w.grownBy (W.setCells g o vs) (some g)
  | [], _, _, _, h => h
  | v :: vs, o, w, _, h => setCells_grown vs (o + 1) w _ (grown_set (p := ⟨g, o, none⟩) h (.inl rfl) v)
theorem flat_drop {α : Type} {enc : α → List Value} {s : Nat} (he : ∀ x, (enc x).length = s) : ∀ (l : List α) (k : Nat), (l.drop k).flatMap enc = (l.flatMap enc).drop (k * s)
  | l, 0 => by rw [Nat.zero_mul, List.drop_zero, List.drop_zero]
  | [], k + 1 => by simp
  | a :: l, k + 1 => by
    rw [List.drop_succ_cons, flat_drop he l k, List.flatMap_cons, show (k + 1) * s = s + k * s by rw [Nat.add_mul]; omega, ← List.drop_drop, List.drop_left' (he a)]
theorem flat_takeK {α : Type} {enc : α → List Value} {s : Nat} (he : ∀ x, (enc x).length = s) : ∀ (l : List α) (k : Nat), (l.take k).flatMap enc = (l.flatMap enc).take (k * s)
  | l, 0 => by rw [Nat.zero_mul, List.take_zero, List.take_zero]; rfl
  | [], k + 1 => by simp
  | a :: l, k + 1 => by
    rw [List.take_succ_cons, List.flatMap_cons, flat_takeK he l k, List.flatMap_cons, show (k + 1) * s = s + k * s by rw [Nat.add_mul]; omega, List.take_append, he a, show s + k * s - s = k * s by omega, List.take_of_length_le (l := enc a) (by rw [he]; omega)]
theorem intL_one (n : Int) : ∀ u ∈ intL n, u.oneCell' = true := by
  intro u hu
  obtain rfl := List.mem_singleton.1 hu
  rfl
theorem run_clear_one {P : Program} (w : World) (t e ty : TypeId) (z : Value) (ht : P.underlying t = some (.slice e)) (hv : ∀ w, (zeroValue e).run P w = .ok z w) (h1 : ∀ u ∈ z.cells.toList, u.oneCell' = true) (hz : (Builtin.zeroCells z.cells 1).toList = z.cells.toList) (b o c : Nat)
    (hc : ∀ j, j < z.cells.toList.length → (w.cell? ⟨b, o + j, none⟩).isSome = true) (hf : ∀ j, j < z.cells.toList.length → w.frozen? ⟨b, o + j, none⟩ = false) :
    (Builtin.clear_ #[t] ty #[.slice (some ⟨b, o, none⟩) 1 c]).run P w = .ok (.tuple #[]) (w.setCells b o z.cells.toList) := by
  have hst := run_storeCells_cells (P := P) b o z.cells.toList 0 w (by simpa using hc) (by simpa using hf) h1
  simp only [Nat.add_zero] at hst
  simp [Builtin.clear_, run_underlying ht, hv, hz, hst]
theorem whole_some {W : World} {g : Nat} {t : TypeId} {cs : Array Value} (h : Whole W g t cs) {j : Nat} (hj : j < cs.size) : (W.cell? ⟨g, j, none⟩).isSome = true := by
  rw [h.at j (v := cs[j]) (Array.getElem?_eq_getElem hj)]
  rfl
/-- A row without one element. -/
theorem own_cut {α : Type} {enc : α → List Value} {s : Nat} (he : ∀ x, (enc x).length = s) {w : World} {base g c n i : Nat} {e : TypeId} {l : List α} {cur : Array Value} {zs : List Value} (hb : base ≤ g) (hW : Whole w g e cur) (hn : l.length = n) (hi : i < n) (hnc : n ≤ c) (hcm : c ≤ maxLen) (hcs : cur.size = c * s) (htk : cur.toList.take (n * s) = l.flatMap enc) (hz : zs.length = s) :
    ((w.drew.setCells g (i * s) ((l.drop (i + 1)).flatMap enc)).setCells g ((n - 1) * s) zs).ownsRow base e s (.slice (some ⟨g, 0, none⟩) (n - 1) c) (n - 1) ((l.eraseIdx i).flatMap enc) ∧ w.grownBy ((w.drew.setCells g (i * s) ((l.drop (i + 1)).flatMap enc)).setCells g ((n - 1) * s) zs) (some g) := by
  have hnl : ((l.drop (i + 1)).flatMap enc).length = (n - (i + 1)) * s := by rw [flat_len (enc := enc) (s := s) he, List.length_drop, hn]
  have hsum : i * s + (n - (i + 1)) * s = (n - 1) * s := by rw [← Nat.add_mul]; congr 1; omega
  have hsum2 : (n - 1) * s + s = n * s := by rw [← Nat.succ_mul]; congr 1; omega
  have hle : n * s ≤ c * s := Nat.mul_le_mul_right s hnc
  have hW0 : Whole w.drew g e cur := hW
  have h1 := setCells_whole ((l.drop (i + 1)).flatMap enc) (i * s) w.drew cur hW0 (by rw [hnl, hsum, hcs]; omega)
  have hcl : cur.toList.length = c * s := by rw [Array.length_toList]; exact hcs
  have hil : (cur.toList.take (i * s)).length = i * s := by rw [List.length_take, hcl]; have : i * s ≤ n * s := Nat.mul_le_mul_right s (Nat.le_of_lt hi); omega
  have hsz : (cur.toList.take (i * s) ++ (l.drop (i + 1)).flatMap enc ++ cur.toList.drop (i * s + ((l.drop (i + 1)).flatMap enc).length)).length = c * s := by
    rw [List.length_append, List.length_append, hil, List.length_drop, hnl, hsum, hcl]
    omega
  have h2 := setCells_whole zs ((n - 1) * s) _ _ h1 (by show (n - 1) * s + zs.length ≤ (List.toArray _).size; rw [List.size_toArray, hsz, hz]; omega)
  refine ⟨⟨?_, .inr ⟨g, c, _, rfl, hb, h2, by omega, hcm, ?_, ?_⟩⟩, setCells_grown _ _ _ _ (setCells_grown _ _ _ _ ⟨rfl, rfl, rfl, Nat.le_refl _, fun _ _ _ => rfl⟩)⟩
  · rw [flat_len (enc := enc) (s := s) he, List.length_eraseIdx_of_lt (by omega), hn]
  · rw [List.size_toArray, List.length_append, List.length_append, List.length_take, List.length_drop, List.toList_toArray, hsz, hz]
    omega
  · rw [List.toList_toArray, List.toList_toArray, List.append_assoc, List.take_append_of_le_length (by rw [List.length_take, hsz]; omega), List.take_take, Nat.min_self, List.take_append_of_le_length (by rw [List.length_append, hil, hnl, hsum]; exact Nat.le_refl _), List.take_of_length_le (by rw [List.length_append, hil, hnl, hsum]; exact Nat.le_refl _), List.eraseIdx_eq_take_drop_succ, List.flatMap_append, flat_takeK he, ← htk, List.take_take, Nat.min_eq_left (Nat.mul_le_mul_right s (Nat.le_of_lt hi))]
set_option maxRecDepth 100000 in
set_option maxHeartbeats 4000000 in
theorem deleteT_any (l : List Tl) (g c i j n base : Nat) (w : World) (hj : j = i + 1) (hi : i < n) (hn : l.length = n) (ho : w.ownsRow base 112 7 (.slice (some ⟨g, 0, none⟩) n c) n (l.flatMap tlL)) :
    Calls Try.prog 110 #[.slice (some ⟨g, 0, none⟩) n c, .int .i64 i, .int .i64 j] w fun e w' => e = .returned (.slice (some ⟨g, 0, none⟩) (n - 1) c) ∧ w'.ownsRow base 112 7 (.slice (some ⟨g, 0, none⟩) (n - 1) c) (n - 1) ((l.eraseIdx i).flatMap tlL) ∧ w.grownBy w' (some g) := by
  obtain ⟨i0, hi0, hz0, hz1, hz2⟩ := info_parts info_tool
  rcases ho.2 with ⟨h0, _⟩ | ⟨g', cap, cur, hv, hb, hW, hnc, hcm, hcs, htk⟩
  · cases h0
  injection hv with e1 _ e3
  injection e1 with e1
  injection e1 with e1
  subst e1
  subst e3
  have hW : Whole w g 112 cur := hW
  have hhe : ∀ x : Tl, (tlL x).length = 7 := fun _ => rfl
  have hle : n * 7 ≤ c * 7 := Nat.mul_le_mul_right 7 hnc
  have hmul : (n - j) * 7 = n * 7 - j * 7 := Nat.sub_mul n j 7
  have hji : j * 7 = i * 7 + 7 := by rw [hj, Nat.succ_mul]
  have hjn : j * 7 ≤ n * 7 := Nat.mul_le_mul_right 7 (by omega)
  obtain ⟨news, hnews⟩ : ∃ news, news = (l.drop (i + 1)).flatMap tlL := ⟨_, rfl⟩
  have hlen : news.length = (n - j) * 7 := by rw [hnews, flat_len (enc := tlL) (s := 7) hhe, List.length_drop, hn, hj]
  have hget : ∀ t u, news[t]? = some u → cur[j * 7 + t]? = some u := by
    intro t u hu
    have ht := (List.getElem?_eq_some_iff.1 hu).1
    rw [hnews, flat_drop hhe, ← htk, List.getElem?_drop, ← hj, List.getElem?_take, if_pos (by omega), Array.getElem?_toList] at hu
    exact hu
  obtain ⟨A, hA, hsrc⟩ : ∃ A : Addr, (if c = j then some (⟨g, 0, none⟩ : Addr) else some ⟨g, j * 7, none⟩) = some A ∧ Hid (∀ t u, news[t]? = some u → w.drew.cell? (A.add t) = some u) := by
    by_cases h : c = j
    · refine ⟨⟨g, 0, none⟩, by simp [h], Lib.hid fun t u hu => ?_⟩
      have h0 : news.length = 0 := by
        rw [hlen, show n - j = 0 by omega, Nat.zero_mul]
      rw [List.length_eq_zero_iff.1 h0] at hu
      simp at hu
    · refine ⟨⟨g, j * 7, none⟩, by simp [h], Lib.hid fun t u hu => ?_⟩
      rw [Addr.add_lit]
      have h1 := hget t u hu
      skip
      exact hW.at _ h1
  have s1 : Hid (news.length = (n - j) * 7) := Lib.hid hlen
  have s2 : Hid (∀ u ∈ news, u.oneCell' = true) := Lib.hid (by
    intro u hu
    rw [hnews] at hu
    obtain ⟨x, _, hx⟩ := List.mem_flatMap.1 hu
    exact tlL_one x u hx)
  have s3 : Hid (∀ t, t < news.length → (w.drew.cell? ⟨g, 0 + i * 7 + t, none⟩).isSome = true ∧ w.drew.frozen? ⟨g, 0 + i * 7 + t, none⟩ = false) := Lib.hid (by
    intro t ht
    exact ⟨whole_some hW (by omega), hW.free _⟩)
  obtain ⟨W1, hW1⟩ : ∃ W1, W1 = w.drew.setCells g (0 + i * 7) news := ⟨_, rfl⟩
  have hW1' : Whole W1 g 112 (cur.toList.take (0 + i * 7) ++ news ++ cur.toList.drop (0 + i * 7 + news.length)).toArray := by
    rw [hW1]
    exact setCells_whole news (0 + i * 7) w.drew cur hW (by omega)
  have hcz : ((cur.toList.take (0 + i * 7) ++ news ++ cur.toList.drop (0 + i * 7 + news.length)).toArray).size = c * 7 := by
    rw [List.size_toArray, List.length_append, List.length_append, List.length_take, List.length_drop, Array.length_toList]
    omega
  have hoff : (i + (n - j)) * 7 = (n - 1) * 7 := by rw [show i + (n - j) = n - 1 by omega]
  have hlst : (n - 1) * 7 + 7 = n * 7 := by rw [← Nat.succ_mul]; congr 1; omega
  have hcl : ∀ ty, (Builtin.clear_ #[38] ty #[.slice (some ⟨g, (i + (n - j)) * 7, none⟩) (n - (i + (n - j))) (c - (i + (n - j)))]).run Try.prog W1 = .ok (.tuple #[]) (W1.setCells g ((i + (n - j)) * 7) [vi 0, vi 0, vi 0, vi 0, vi 0, vi 0, vi 0]) := fun ty => by
    rw [show n - (i + (n - j)) = 1 by omega]
    exact run_clear_one W1 38 112 ty (.agg #[vi 0, vi 0, vi 0, vi 0, vi 0, vi 0, vi 0]) Try.underlying38 (fun w => by simp [zeroValue, typeInfo, hi0, hz0]) (by simp [Value.cells, Value.oneCell']) (by kernel_rfl) g _ _ (fun k hk => whole_some hW1' (by rw [hcz]; have hk' : k < 7 := hk; omega)) (fun k hk => hW1'.free _)
  have HEND : Hid (∀ W2, W2 = W1.setCells g ((i + (n - j)) * 7) [vi 0, vi 0, vi 0, vi 0, vi 0, vi 0, vi 0] → W2.ownsRow base 112 7 (.slice (some ⟨g, 0, none⟩) (n - 1) c) (n - 1) ((l.eraseIdx i).flatMap tlL) ∧ w.grownBy W2 (some g)) := Lib.hid (fun W2 h2 => by
    have h3 := own_cut (enc := tlL) hhe hb hW hn hi hnc hcm hcs htk (zs := [vi 0, vi 0, vi 0, vi 0, vi 0, vi 0, vi 0]) rfl
    rw [h2, hW1, hnews, Nat.zero_add, hoff]
    exact h3)
  have HW : Hid (W1 = w.drew.setCells g (0 + i * 7) news) := Lib.hid hW1
  have hic : i ≤ c := by omega
  have hin : i ≤ n := by omega
  have hjc : j ≤ c := by omega
  have hjn2 : j ≤ n := by omega
  have hij : i ≤ j := by omega
  have hne : ¬ i = j := by omega
  have hne2 : ¬ (i : Int) = (j : Int) := by omega
  have hcm2 : c ≤ 9223372036854775807 := hcm
  have HR : Hid (i + (n - j) = n - 1) := Lib.hid (by omega)
  clear hW1 hW1' hcz hget hnews hlen hW htk hcs hle hmul hji hjn hoff hlst hhe hj ho hn
  go_enter Try.func110, Try.ntmps110
  go_wp2_with fail
  go_region_law (refine step_append_room rfl (.tmp 22) (.tmp 25) 38 rfl 112 i0 7 Try.underlying38 hi0 hz1 g 0 i c (by simp [Act.eval, Act.put]) A (n - j) (c - j) news (by simp [Act.eval, Act.put]) s1.out hsrc.out s2.out (by omega) s3.out ?_; rw [← HW.out])
  go_wp2
  go_ret
  exact ⟨by rw [HR.out]; rfl, HEND.out _ rfl⟩
set_option maxRecDepth 100000 in
set_option maxHeartbeats 4000000 in
theorem deleteI_any (l : List Int) (g c i j n base : Nat) (w : World) (hj : j = i + 1) (hi : i < n) (hn : l.length = n) (ho : w.ownsRow base 3 1 (.slice (some ⟨g, 0, none⟩) n c) n (l.flatMap intL)) :
    Calls Try.prog 112 #[.slice (some ⟨g, 0, none⟩) n c, .int .i64 i, .int .i64 j] w fun e w' => e = .returned (.slice (some ⟨g, 0, none⟩) (n - 1) c) ∧ w'.ownsRow base 3 1 (.slice (some ⟨g, 0, none⟩) (n - 1) c) (n - 1) ((l.eraseIdx i).flatMap intL) ∧ w.grownBy w' (some g) := by
  obtain ⟨i0, hi0, hz0, hz1, hz2⟩ := info_parts info_int
  rcases ho.2 with ⟨h0, _⟩ | ⟨g', cap, cur, hv, hb, hW, hnc, hcm, hcs, htk⟩
  · cases h0
  injection hv with e1 _ e3
  injection e1 with e1
  injection e1 with e1
  subst e1
  subst e3
  have hW : Whole w g 3 cur := hW
  have hhe : ∀ x : Int, (intL x).length = 1 := fun _ => rfl
  have hle : n * 1 ≤ c * 1 := Nat.mul_le_mul_right 1 hnc
  have hmul : (n - j) * 1 = n * 1 - j * 1 := Nat.sub_mul n j 1
  have hji : j * 1 = i * 1 + 1 := by rw [hj, Nat.succ_mul]
  have hjn : j * 1 ≤ n * 1 := Nat.mul_le_mul_right 1 (by omega)
  obtain ⟨news, hnews⟩ : ∃ news, news = (l.drop (i + 1)).flatMap intL := ⟨_, rfl⟩
  have hlen : news.length = (n - j) * 1 := by rw [hnews, flat_len (enc := intL) (s := 1) hhe, List.length_drop, hn, hj]
  have hget : ∀ t u, news[t]? = some u → cur[j * 1 + t]? = some u := by
    intro t u hu
    have ht := (List.getElem?_eq_some_iff.1 hu).1
    rw [hnews, flat_drop hhe, ← htk, List.getElem?_drop, ← hj, List.getElem?_take, if_pos (by omega), Array.getElem?_toList] at hu
    exact hu
  obtain ⟨A, hA, hsrc⟩ : ∃ A : Addr, (if c = j then some (⟨g, 0, none⟩ : Addr) else some ⟨g, j, none⟩) = some A ∧ Hid (∀ t u, news[t]? = some u → w.drew.cell? (A.add t) = some u) := by
    by_cases h : c = j
    · refine ⟨⟨g, 0, none⟩, by simp [h], Lib.hid fun t u hu => ?_⟩
      have h0 : news.length = 0 := by
        rw [hlen, show n - j = 0 by omega, Nat.zero_mul]
      rw [List.length_eq_zero_iff.1 h0] at hu
      simp at hu
    · refine ⟨⟨g, j, none⟩, by simp [h], Lib.hid fun t u hu => ?_⟩
      rw [Addr.add_lit]
      have h1 := hget t u hu
      rw [Nat.mul_one] at h1
      exact hW.at _ h1
  have s1 : Hid (news.length = (n - j) * 1) := Lib.hid hlen
  have s2 : Hid (∀ u ∈ news, u.oneCell' = true) := Lib.hid (by
    intro u hu
    rw [hnews] at hu
    obtain ⟨x, _, hx⟩ := List.mem_flatMap.1 hu
    exact intL_one x u hx)
  have s3 : Hid (∀ t, t < news.length → (w.drew.cell? ⟨g, 0 + i * 1 + t, none⟩).isSome = true ∧ w.drew.frozen? ⟨g, 0 + i * 1 + t, none⟩ = false) := Lib.hid (by
    intro t ht
    exact ⟨whole_some hW (by omega), hW.free _⟩)
  obtain ⟨W1, hW1⟩ : ∃ W1, W1 = w.drew.setCells g (0 + i * 1) news := ⟨_, rfl⟩
  have hW1' : Whole W1 g 3 (cur.toList.take (0 + i * 1) ++ news ++ cur.toList.drop (0 + i * 1 + news.length)).toArray := by
    rw [hW1]
    exact setCells_whole news (0 + i * 1) w.drew cur hW (by omega)
  have hcz : ((cur.toList.take (0 + i * 1) ++ news ++ cur.toList.drop (0 + i * 1 + news.length)).toArray).size = c * 1 := by
    rw [List.size_toArray, List.length_append, List.length_append, List.length_take, List.length_drop, Array.length_toList]
    omega
  have hoff : (i + (n - j)) * 1 = (n - 1) * 1 := by rw [show i + (n - j) = n - 1 by omega]
  have hlst : (n - 1) * 1 + 1 = n * 1 := by rw [← Nat.succ_mul]; congr 1; omega
  have hcl : ∀ ty, (Builtin.clear_ #[24] ty #[.slice (some ⟨g, i + (n - j), none⟩) (n - (i + (n - j))) (c - (i + (n - j)))]).run Try.prog W1 = .ok (.tuple #[]) (W1.setCells g (i + (n - j)) [vi 0]) := fun ty => by
    rw [show n - (i + (n - j)) = 1 by omega]
    exact run_clear_one W1 24 3 ty (.int .i64 0) Try.underlying24 (fun w => by simp [zeroValue, typeInfo, hi0, hz0]) (by simp [Value.cells, Value.oneCell']) (by kernel_rfl) g _ _ (fun k hk => whole_some hW1' (by rw [hcz]; have hk' : k < 1 := hk; omega)) (fun k hk => hW1'.free _)
  have HEND : Hid (∀ W2, W2 = W1.setCells g (i + (n - j)) [vi 0] → W2.ownsRow base 3 1 (.slice (some ⟨g, 0, none⟩) (n - 1) c) (n - 1) ((l.eraseIdx i).flatMap intL) ∧ w.grownBy W2 (some g)) := Lib.hid (fun W2 h2 => by
    have h3 := own_cut (enc := intL) hhe hb hW hn hi hnc hcm hcs htk (zs := [vi 0]) rfl
    rw [h2, hW1, hnews, Nat.zero_add, show i + (n - j) = (n - 1) * 1 by omega]
    exact h3)
  have HW : Hid (W1 = w.drew.setCells g (0 + i * 1) news) := Lib.hid hW1
  have hic : i ≤ c := by omega
  have hin : i ≤ n := by omega
  have hjc : j ≤ c := by omega
  have hjn2 : j ≤ n := by omega
  have hij : i ≤ j := by omega
  have hne : ¬ i = j := by omega
  have hne2 : ¬ (i : Int) = (j : Int) := by omega
  have hcm2 : c ≤ 9223372036854775807 := hcm
  have HR : Hid (i + (n - j) = n - 1) := Lib.hid (by omega)
  clear hW1 hW1' hcz hget hnews hlen hW htk hcs hle hmul hji hjn hoff hlst hhe hj ho hn
  go_enter Try.func112, Try.ntmps112
  go_wp2_with fail
  go_region_law (refine step_append_room rfl (.tmp 22) (.tmp 25) 24 rfl 3 i0 1 Try.underlying24 hi0 hz1 g 0 i c (by simp [Act.eval, Act.put]) A (n - j) (c - j) news (by simp [Act.eval, Act.put]) s1.out hsrc.out s2.out (by omega) s3.out ?_; rw [← HW.out])
  go_wp2
  go_ret
  exact ⟨by rw [HR.out]; rfl, HEND.out _ rfl⟩

end Go.Proofs.Ytpmafnifgegfbaa
