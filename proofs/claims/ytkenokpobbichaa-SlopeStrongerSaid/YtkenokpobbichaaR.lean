/- The columns of surfaces that cost less than nothing. -/
import Derived.Test.YtkenokpobbichaaQ
namespace Go.Proofs.Ytkenokpobbichaa
open Go.RowKit Go.Shelf Go.Deep

def bArr (n : Nat) (g : Nat → Bool) : Array Value := Array.ofFn (n := n) fun q => Value.bool (g q.val)
theorem bArr_get {n : Nat} (g : Nat → Bool) {k : Nat} (h : k < n) : (bArr n g)[k]? = some (.bool (g k)) := by
  unfold bArr
  rw [Array.getElem?_ofFn, dif_pos h]
theorem bArr_set {n : Nat} (g g' : Nat → Bool) {k : Nat} (x : Bool) (he : ∀ i, i < n → g' i = if i = k then x else g i) : (bArr n g).setIfInBounds k (.bool x) = bArr n g' := by
  apply Array.ext
  · simp [bArr]
  · intro q h1 h2
    have hq : q < n := by simpa [bArr] using h2
    rw [Array.getElem_setIfInBounds (by simpa [bArr] using hq)]
    simp only [bArr, Array.getElem_ofFn]
    rw [he q hq]
    by_cases e : k = q
    · subst e; rw [if_pos rfl, if_pos rfl]
    · rw [if_neg e, if_neg (Ne.symm e)]
theorem bArr_made (n : Nat) : madeCells #[Value.bool false] n = bArr n (fun _ => false) := by
  apply Array.ext
  · simp [madeCells, bArr]
  · intro q h1 h2
    simp [madeCells, bArr, Nat.mod_one]
theorem info_bool : (Try.prog.info? 4).map (fun i => (i.zero, i.size, i.bytes)) = some (some (.bool false), 1, 1) := by kernel_rfl
theorem make_bools (W : World) (n : Nat) (hn : n ≤ 3000) : (Instr.makeSlice 148 (.int .i64 n) (.int .i64 n)).run Try.prog W = .ok (.slice (some ⟨W.heap.size, 0, none⟩) n n) (W.alloc (.cells (bArr n (fun _ => false)) 4)) := by
  obtain ⟨i0, hi0, hz0, hz1, hz2⟩ := info_parts info_bool
  have h := run_make (P := Try.prog) W 148 4 i0 _ Try.underlying148 hi0 hz0 .i64 .i64 n n (by omega) (by omega) (by rw [hz2]; omega) (by omega)
  rw [hz1] at h
  simp only [Int.toNat_natCast, Value.cells, Nat.mul_one, bArr_made] at h
  exact h
/-- The columns that move. -/
def movesL (s : Sd) (f : Int) (t : Option Bool) : List Nat := (List.range s.cols.length).filter fun x => moveB (cF (hT t s) (dAt s) f) s.n bigN s.cols.length s.K x
def mvQ (c : Nat → Nat → Int) (n K k j x : Nat) : Prop := (cheapN c n bigN (K - 1 + j) k).2 < 0 ∧ k ≤ x ∧ x ≤ k + (K - 1) + j
def mvP (c : Nat → Nat → Int) (n cols K i x : Nat) : Prop := ∃ k j, k < i ∧ j < cols - (k + (K - 1)) ∧ mvQ c n K k j x
theorem moveB_is {c : Nat → Nat → Int} {n cols K x : Nat} : moveB c n bigN cols K x = true ↔ mvP c n cols K cols x := by
  unfold moveB mvP mvQ
  simp only [List.any_eq_true, List.mem_range, Bool.and_eq_true, decide_eq_true_eq]
  constructor
  · rintro ⟨k, hk, j, hj, h⟩
    exact ⟨k, j, hk, hj, h⟩
  · rintro ⟨k, j, hk, hj, h⟩
    exact ⟨k, hk, j, hj, h⟩
theorem mvP_zero {c : Nat → Nat → Int} {n cols K x : Nat} : ¬ mvP c n cols K 0 x := by
  rintro ⟨k, j, hk, _⟩
  omega
theorem mvP_succ {c : Nat → Nat → Int} {n cols K i x : Nat} : mvP c n cols K (i + 1) x ↔ mvP c n cols K i x ∨ ∃ j, j < cols - (i + (K - 1)) ∧ mvQ c n K i j x := by
  constructor
  · rintro ⟨k, j, hk, hj, h⟩
    by_cases e : k = i
    · subst e
      exact .inr ⟨j, hj, h⟩
    · exact .inl ⟨k, j, by omega, hj, h⟩
  · rintro (⟨k, j, hk, hj, h⟩ | ⟨j, hj, h⟩)
    · exact ⟨k, j, by omega, hj, h⟩
    · exact ⟨i, j, by omega, hj, h⟩
theorem ex_succ {P : Nat → Prop} {m : Nat} : (∃ j, j < m + 1 ∧ P j) ↔ (∃ j, j < m ∧ P j) ∨ P m := by
  constructor
  · rintro ⟨j, hj, h⟩
    by_cases e : j = m
    · subst e; exact .inr h
    · exact .inl ⟨j, by omega, h⟩
  · rintro (⟨j, hj, h⟩ | h)
    · exact ⟨j, by omega, h⟩
    · exact ⟨m, by omega, h⟩
/-- The marks, while they are set. -/
structure MvJ (s : Sm) (f : Int) (t : Option Bool) (g : Nat → Bool) (w W : World) : Prop where
  nw : newer w W
  xl : Whole W w.heap.size 115 (lkC s f t)
  ib : Whole W (w.heap.size + 1) 4 (bArr s.cs.length g)
section
variable {s : Sm} {f : Int} {t : Option Bool} {g : Nat → Bool} {w W W' : World}
theorem MvJ.next (h : MvJ s f t g w W) (hb : newer W W') : MvJ s f t g w W' := ⟨newer_trans h.nw hb, h.xl.below hb h.xl.lt, h.ib.below hb h.ib.lt⟩
theorem MvJ.app (h : MvJ s f t g w W) {A : Option Addr} {n c g2 c2 : Nat} {xs : List Value} (ho : W.ownsRow w.heap.size 3 1 (.slice A n c) n xs) (hw : (A = some ⟨g2, 0, none⟩ ∧ c2 = c ∧ W.grownBy W' (some g2)) ∨ (W.heap.size ≤ g2 ∧ W.grownBy W' none)) : MvJ s f t g w W' := by
  have hgr : W.grownBy W' (Value.slice A n c).ownBlock := by
    rcases hw with ⟨h1, _, h3⟩ | ⟨_, h3⟩
    · rw [h1]; exact h3
    · exact h3.but _
  refine ⟨?_, h.xl.grown hgr (fun e => own_ne ho h.xl (by decide) e.symm), h.ib.grown hgr (fun e => own_ne ho h.ib (by decide) e.symm)⟩
  rcases hw with ⟨h1, _, h3⟩ | ⟨_, h3⟩
  · exact Below.trans h.nw (below_of_grown h3 (own_ge ho g2 (by rw [h1]; rfl)) h.nw.size)
  · exact newer_trans h.nw (below_grown h3 (fun q e => by cases e) (Nat.le_refl _))
theorem MvJ.set (h : MvJ s f t g w W) {k : Nat} {g' : Nat → Bool} (he : ∀ i, i < s.cs.length → g' i = if i = k then true else g i) : MvJ s f t g' w (W.setCell ⟨w.heap.size + 1, k, none⟩ (.bool true)) := by
  refine ⟨h.nw.setCell (p := ⟨w.heap.size + 1, k, none⟩) (Nat.le_succ _) _, h.xl.far (p := ⟨w.heap.size + 1, k, none⟩) (by show w.heap.size ≠ w.heap.size + 1; omega) _, ?_⟩
  have h1 := h.ib.set k (.bool true)
  rw [bArr_set g g' true he] at h1
  exact h1
end
set_option maxRecDepth 100000 in
set_option maxHeartbeats 1000000 in
theorem moves_any (s : Sm) (f : Int) (t : Option Bool) (w : World) (hok : SmOk s w) (hs : SdOk s.sd) (f0 : 0 ≤ f) (f1 : f ≤ 10001) :
    Calls Try.prog 73 #[lkV s f t] w fun e w' => ∃ A c, e = .returned (.slice A (movesL s.sd f t).length c) ∧ w'.ownsRow w.heap.size 3 1 (.slice A (movesL s.sd f t).length c) (movesL s.sd f t).length ((movesL s.sd f t).map fun x : Nat => vi x) ∧ newer w w' := by
  obtain ⟨c, hc⟩ : ∃ c, c = cF (hT t s.sd) (dAt s.sd) f := ⟨_, rfl⟩
  obtain ⟨n, hn⟩ : ∃ n, n = s.sd.n := ⟨_, rfl⟩
  obtain ⟨K, hK⟩ : ∃ K, K = s.sd.K := ⟨_, rfl⟩
  obtain ⟨ml, hml⟩ : ∃ ml, ml = movesL s.sd f t := ⟨_, rfl⟩
  rw [← hml]
  have HML : Hid (ml = (List.range s.cs.length).filter fun x => moveB c n bigN s.cs.length K x) := Lib.hid (by
    rw [hml, hc, hn, hK]
    unfold movesL
    rw [sd_len])
  have HCH : Hid (∀ k tz W, SmOk s W → k ≤ tz → tz < s.cs.length → Calls Try.prog 98 #[lkV s f t, vi k, vi tz] W fun e w' => ∃ q cc, e = .returned (.tuple #[.agg #[vi k, .slice (some ⟨q, 0, none⟩) (tz - k + 1) cc], vi (cheapN c n bigN (tz - k) k).2]) ∧ newer W w') := Lib.hid (by
    intro k tz W h1 h2 h3
    refine (cheap_to s f t k tz W h1 hs f0 f1 h2 h3).mono ?_
    rintro e w' ⟨q, cc, h4, h5, _⟩
    exact ⟨q, cc, by rw [h4, hc, hn], h5⟩)
  have hkl : (K : Int) = s.least ∧ 1 ≤ K ∧ K ≤ 4 := by
    have h1 := hs.least
    have h2 : s.sd.least = s.least := rfl
    rw [hK]
    unfold Sd.K
    omega
  have hcl : s.cs.length ≤ 12 := by have h1 := hs.cols; rw [sd_len] at h1; omega
  have hnw : newer w (w.alloc (.cells (lkC s f t) 115)) := newer_allocH _ _
  have hxb := Whole.made w 115 (lkC s f t)
  have x0 := hxb.at 0 (v := .slice s.a s.cs.length s.c) rfl
  have hmk := fun W => make_bools W s.cs.length (by omega)
  have H0 : Hid (MvJ s f t (fun _ => false) w ((w.alloc (.cells (lkC s f t) 115)).alloc (.cells (bArr s.cs.length (fun _ => false)) 4))) := Lib.hid (by
    have e2 := newer_allocH (w.alloc (.cells (lkC s f t) 115)) (.cells (bArr s.cs.length (fun _ => false)) 4)
    have a2 := Whole.made (w.alloc (.cells (lkC s f t) 115)) 4 (bArr s.cs.length (fun _ => false))
    rw [World.size_alloc] at a2
    exact ⟨newer_trans hnw e2, hxb.below e2 hxb.lt, a2⟩)
  have HOK := Lib.hid hok
  obtain ⟨i0, hi0, hz0, hz1, hz2⟩ := info_parts info_int
  have HI := Lib.hid (And.intro hi0 (And.intro hz0 (And.intro hz1 hz2)))
  clear hc hn hK hs f0 f1 hok hnw hxb hml hi0 hz0 hz1 hz2
  go_enter Try.func73, Try.ntmps73
  go_wp2_with fail
  go_loopw [20] (fun s20 wr => ∃ (i : Nat) (g : Nat → Bool), i ≤ s.cs.length ∧ s20 = vi i ∧ MvJ s f t g w wr ∧ ∀ x, x < s.cs.length → (g x = true ↔ mvP c n s.cs.length K i x)) (fun s20 _ => s.cs.length - (intOf s20).toNat)
  case atStart => exact ⟨0, fun _ => false, Nat.zero_le _, rfl, H0.out, fun x _ => ⟨fun h => (by cases h), fun h => absurd h mvP_zero⟩⟩
  case round =>
    obtain ⟨i, g, hi, rfl, hj, hg⟩ := hrel
    clear H0 x0
    have HJ := Lib.hid (And.intro hj hg)
    have x0 := hj.xl.at 0 (v := .slice s.a s.cs.length s.c) rfl
    have x1 := hj.xl.at 1 (v := vi s.least) rfl
    clear hj hg
    obtain ⟨wo, rfl⟩ : ∃ wo : World, wo = wr := ⟨_, rfl⟩
    by_cases hlt : i < s.cs.length
    · go_wp2_with fail
      go_loopw [5] (fun s5 wr => ∃ (tz : Nat) (g : Nat → Bool), s5 = vi tz ∧ i + (K - 1) ≤ tz ∧ tz ≤ 20 ∧ (tz ≤ s.cs.length ∨ tz = i + (K - 1)) ∧ MvJ s f t g w wr ∧ ∀ x, x < s.cs.length → (g x = true ↔ mvP c n s.cs.length K i x ∨ ∃ j, j < tz - (i + (K - 1)) ∧ mvQ c n K i j x)) (fun s5 _ => 30 - (intOf s5).toNat)
      case atStart => exact ⟨i + (K - 1), g, by rw [show (i : Int) + s.least - 1 = ((i + (K - 1) : Nat) : Int) by omega], Nat.le_refl _, by omega, .inr rfl, HJ.out.1, fun x hx => by
        rw [HJ.out.2 x hx, Nat.sub_self]
        exact ⟨.inl, fun h => h.elim id (fun ⟨j, hj, _⟩ => by omega)⟩⟩
      case round =>
        obtain ⟨tz, g2, rfl, ht1, ht2, ht3, hj, hg⟩ := hrel
        clear HJ x0 x1
        have HJ := Lib.hid (And.intro hj hg)
        have x0 := hj.xl.at 0 (v := .slice s.a s.cs.length s.c) rfl
        have x1 := hj.xl.at 1 (v := vi s.least) rfl
        have x2 := hj.xl.at 2 (v := vi f) rfl
        have x3 := hj.xl.at 3 (v := .func (.func (trF t)) #[] #[]) rfl
        clear hj hg
        by_cases hlt2 : tz < s.cs.length
        · have HC := Lib.hid (HCH.out i tz wr (HOK.out.next HJ.out.1.nw) (by omega) hlt2)
          obtain ⟨cv, hcv⟩ : ∃ cv, cv = (cheapN c n bigN (tz - i) i).2 := ⟨_, rfl⟩
          have HCV : Hid (∀ x, mvQ c n K i (tz - (i + (K - 1))) x ↔ cv < 0 ∧ i ≤ x ∧ x ≤ tz) := Lib.hid (by
            intro x
            unfold mvQ
            rw [show K - 1 + (tz - (i + (K - 1))) = tz - i by omega, ← hcv, show i + (K - 1) + (tz - (i + (K - 1))) = tz by omega])
          rw [← hcv] at HC
          clear hcv
          obtain ⟨wp, rfl⟩ : ∃ wp : World, wp = wr := ⟨_, rfl⟩
          go_wp2_with fail
          refine (HC.out).mono ?_
          rintro e w3 ⟨q, cc, rfl, hb3⟩
          have H3 := Lib.hid ((HJ.out.1.next hb3).next (newer_allocH w3 (.cells #[vi i, .slice (some ⟨q, 0, none⟩) (tz - i + 1) cc] 39)))
          have HG := Lib.hid HJ.out.2
          clear HJ HC hb3 x0 x1 x2 x3
          go_wp2_with fail
          go_loopw [8] (fun s8 wr => ∃ (k : Nat) (g : Nat → Bool), s8 = vi k ∧ i ≤ k ∧ k ≤ tz + 1 ∧ MvJ s f t g w wr ∧ ∀ x, x < s.cs.length → (g x = true ↔ (mvP c n s.cs.length K i x ∨ ∃ j, j < tz - (i + (K - 1)) ∧ mvQ c n K i j x) ∨ (cv < 0 ∧ i ≤ x ∧ x < k))) (fun s8 _ => 30 - (intOf s8).toNat)
          case atStart => exact ⟨i, g2, rfl, Nat.le_refl _, by omega, H3.out, fun x hx => by
            rw [HG.out x hx]
            exact ⟨.inl, fun h => h.elim id (fun h => by omega)⟩⟩
          case round =>
            obtain ⟨k, g3, rfl, hk1, hk2, hj, hg⟩ := hrel
            clear H3 HG
            have HJ := Lib.hid (And.intro hj hg)
            clear hj hg
            by_cases hneg : cv < 0
            · by_cases hkt : k ≤ tz
              · have hkn : k < s.cs.length := by omega
                have hki : (k : Int) < s.cs.length := by omega
                have hktz : (k : Int) ≤ tz := by omega
                have b0 := HJ.out.1.ib.at k (bArr_get g3 hkn)
                have bf := HJ.out.1.ib.free k
                have HS := Lib.hid (HJ.out.1.set (k := k) (g' := fun x => if x = k then true else g3 x) (fun _ _ => rfl))
                go_wp2_with fail
                refine ⟨⟨k + 1, fun x => if x = k then true else g3 x, rfl, by omega, by omega, HS.out, fun x hx => ?_⟩, ?_⟩
                · have h1 := HJ.out.2 x hx
                  dsimp only
                  by_cases e : x = k
                  · rw [if_pos e]
                    exact ⟨fun _ => .inr ⟨hneg, by omega, by omega⟩, fun _ => rfl⟩
                  · rw [if_neg e, h1]
                    constructor
                    · rintro (h | h)
                      · exact .inl h
                      · exact .inr ⟨h.1, h.2.1, by omega⟩
                    · rintro (h | h)
                      · exact .inl h
                      · exact .inr ⟨h.1, h.2.1, by omega⟩
                · simp [intOf]
                  omega
              · have hktz : ¬ ((k : Int) ≤ tz) := by omega
                go_wp2_with fail
                refine ⟨⟨tz + 1, g3, rfl, by omega, by omega, .inl (by omega), HJ.out.1, fun x hx => ?_⟩, ?_⟩
                · rw [HJ.out.2 x hx, show tz + 1 - (i + (K - 1)) = (tz - (i + (K - 1))) + 1 by omega, ex_succ, HCV.out x]
                  constructor
                  · rintro ((h | h) | h)
                    · exact .inl h
                    · exact .inr (.inl h)
                    · exact .inr (.inr ⟨h.1, h.2.1, by omega⟩)
                  · rintro (h | h | h)
                    · exact .inl (.inl h)
                    · exact .inl (.inr h)
                    · exact .inr ⟨h.1, h.2.1, by omega⟩
                · simp [intOf]
                  omega
            · go_wp2_with fail
              refine ⟨⟨tz + 1, g3, rfl, by omega, by omega, .inl (by omega), HJ.out.1, fun x hx => ?_⟩, ?_⟩
              · rw [HJ.out.2 x hx, show tz + 1 - (i + (K - 1)) = (tz - (i + (K - 1))) + 1 by omega, ex_succ, HCV.out x]
                constructor
                · rintro ((h | h) | h)
                  · exact .inl h
                  · exact .inr (.inl h)
                  · exact absurd h.1 hneg
                · rintro (h | h | h)
                  · exact .inl (.inl h)
                  · exact .inl (.inr h)
                  · exact absurd h.1 hneg
              · simp [intOf]
                omega
        · go_wp2_with fail
          refine ⟨⟨i + 1, g2, by omega, rfl, HJ.out.1, fun x hx => ?_⟩, ?_⟩
          · rw [HJ.out.2 x hx, mvP_succ, show tz - (i + (K - 1)) = s.cs.length - (i + (K - 1)) by omega]
          · simp [intOf]
            omega
    · obtain rfl : i = s.cs.length := by omega
      have HM : Hid (ml = (List.range s.cs.length).filter g) := Lib.hid (by
        rw [HML.out]
        refine List.filter_congr fun x hx => ?_
        rw [Bool.eq_iff_iff, moveB_is, HJ.out.2 x (List.mem_range.1 hx)])
      have HJ2 := Lib.hid HJ.out.1
      clear HJ HML x0 x1 HCH
      go_wp2_with fail
      go_loopw [2, 60] (fun s2 s60 wr => ∃ (k : Nat) (l : List Nat) (A : Option Addr) (c : Nat), s60 = vi k ∧ k ≤ s.cs.length ∧ l = (List.range k).filter g ∧ s2 = .slice A l.length c ∧ wr.ownsRow w.heap.size 3 1 (.slice A l.length c) l.length (l.map fun x : Nat => vi x) ∧ MvJ s f t g w wr) (fun _ s60 _ => s.cs.length - (intOf s60).toNat)
      case atStart => exact ⟨0, [], none, 0, rfl, Nat.zero_le _, rfl, rfl, ⟨rfl, .inl ⟨rfl, rfl⟩⟩, HJ2.out⟩
      case round =>
        obtain ⟨k, l, A, cp, rfl, hk, hl, rfl, hown, hj⟩ := hrel
        clear HJ2
        have HL := Lib.hid hl
        have HJ := Lib.hid (And.intro hown hj)
        have hlb : l.length ≤ k := by rw [hl]; have := List.length_filter_le g (List.range k); simpa using this
        clear hl hown hj
        by_cases hlt : k < s.cs.length
        · have b0 := HJ.out.2.ib.at k (bArr_get g hlt)
          have hki : (k : Int) < s.cs.length := by omega
          cases hgk : g k with
          | false =>
            rw [hgk] at b0
            have HN : Hid (l = (List.range (k + 1)).filter g) := Lib.hid (by rw [List.range_succ, List.filter_append, ← HL.out]; simp [hgk])
            clear hgk
            go_wp2_with fail
            refine ⟨⟨k + 1, l, A, cp, rfl, by omega, HN.out, rfl, HJ.out.1, HJ.out.2⟩, ?_⟩
            simp [intOf]
            omega
          | true =>
            rw [hgk] at b0
            have HN : Hid (l ++ [k] = (List.range (k + 1)).filter g) := Lib.hid (by rw [List.range_succ, List.filter_append, ← HL.out]; simp [hgk])
            clear hgk
            have hn1 := newer_allocH wr (.cells #[vi k] 3)
            have HO := Lib.hid (own_below HJ.out.1 hn1)
            have HJ3 := Lib.hid (HJ.out.2.next hn1)
            have HCW : Hid ((wr.alloc (.cells #[vi k] 3)).cell? ⟨wr.heap.size, 0, none⟩ = some (vi k)) := Lib.hid ((Whole.made wr 3 #[vi k]).at 0 rfl)
            have HLB := Lib.hid (show l.length ≤ 12 by omega)
            clear hn1
            go_wp2_with (at_builtin; go_loud ((refine wpList_plain rfl fun _ hK => wp_append_one (.tmp 66) (.tmp 68) 25 rfl w.heap.size 3 i0 (.int .i64 0) 8 Try.underlying25 HI.out.1 HI.out.2.1 HI.out.2.2.1 HI.out.2.2.2 rfl A l.length cp (l.map fun x : Nat => vi x) rfl HO.out ⟨wr.heap.size, 0, none⟩ 1 (vi k) rfl HCW.out rfl (by have := HLB.out; unfold maxLen; omega) (by have := HLB.out; omega) HJ3.out.nw.size fun g2 c2 w5 hown hwh => hK _ _ ?_); have HE := Lib.hid (And.intro hown (HJ3.out.app HO.out hwh)); clear hown hwh))
            refine ⟨⟨k + 1, l ++ [k], some ⟨g2, 0, none⟩, c2, rfl, by omega, HN.out, by rw [List.length_append]; rfl, ?_, HE.out.2⟩, ?_⟩
            · have h1 := HE.out.1
              rw [List.length_append, List.map_append]
              exact h1
            · simp [intOf]
              omega
        · obtain rfl : k = s.cs.length := by omega
          obtain rfl : l = ml := HL.out.trans HM.out.symm
          go_wp2_with fail
          go_ret
          exact ⟨A, cp, rfl, HJ.out.1, HJ.out.2.nw⟩

end Go.Proofs.Ytkenokpobbichaa
