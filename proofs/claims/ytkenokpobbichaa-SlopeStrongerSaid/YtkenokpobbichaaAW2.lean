/- A slope with more water, by the reference: of its own. -/
import Derived.Test.YtkenokpobbichaaAI
namespace Go.Proofs.Ytkenokpobbichaa
open Go.RowKit Go.Shelf Go.Deep

theorem info_bd69q : (Try.prog.info? 69).map (fun i => (i.zero, i.size, i.bytes)) = some (some (.agg #[vi 0, vi 0, vi 0, vi 0, vi 0, vi 0, vi 0, vi 0]), 8, 64) := by kernel_rfl
theorem info_col66q : (Try.prog.info? 66).map (fun i => (i.zero, i.size, i.bytes)) = some (some (.slice none 0 0), 1, 24) := by kernel_rfl
/-- A slope whose rows are one's own, and apart. -/
structure SmOwn (B : Nat) (s : Sm) (W : World) : Prop where
  own : W.ownsRow B 66 1 (.slice s.a s.cs.length s.c) s.cs.length (s.cs.flatMap clL)
  col : ∀ x ∈ s.cs, ∃ g, x.a = some ⟨g, 0, none⟩ ∧ W.ownsRow B 69 8 (.slice (some ⟨g, 0, none⟩) x.beds.length x.cp) x.beds.length (x.beds.flatMap bdL)
  ap : ∀ (p q : Nat) (x y : Cl), s.cs[p]? = some x → s.cs[q]? = some y → p ≠ q → x.a ≠ y.a
theorem SmOwn.next {B : Nat} {s : Sm} {W W' : World} (h : SmOwn B s W) (hb : newer W W') : SmOwn B s W' := ⟨own_below h.own hb, fun x hx => by
  obtain ⟨g, h1, h2⟩ := h.col x hx
  exact ⟨g, h1, own_below h2 hb⟩, h.ap⟩
theorem SmOwn.ok {B : Nat} {s : Sm} {W : World} (h : SmOwn B s W) : SmOk s W := ⟨row_of_own (by omega) (fun _ => rfl) h.own, fun x hx => by
  obtain ⟨g, h1, h2⟩ := h.col x hx
  rw [h1]
  exact row_of_own (by omega) (fun _ => rfl) h2⟩
/-- A slope that gets more water: what lies in memory behind so many columns. -/
structure WtQ (s : Sm) (m : Int) (i : Nat) (xs : List Cl) (A : Option Addr) (c : Nat) (w W : World) : Prop where
  nw : newer w W
  xb : Whole W w.heap.size 24 (smC s)
  rb : Whole W (w.heap.size + 1) 24 #[.slice none 0 0, vi 0]
  ob : Whole W (w.heap.size + 1 + 1) 24 #[.slice A xs.length c, vi s.least]
  own : W.ownsRow w.heap.size 66 1 (.slice A xs.length c) xs.length (xs.flatMap clL)
  col : ∀ x ∈ xs, ∃ g, x.a = some ⟨g, 0, none⟩ ∧ W.ownsRow w.heap.size 69 8 (.slice (some ⟨g, 0, none⟩) x.beds.length x.cp) x.beds.length (x.beds.flatMap bdL)
  eq : xs.map (fun x => x.beds) = (s.cs.take i).map fun x => x.beds.map (wetBd m)
  ln : xs.length = i
  ap : ∀ (p q : Nat) (x y : Cl), xs[p]? = some x → xs[q]? = some y → p ≠ q → x.a ≠ y.a
section
variable {s : Sm} {m : Int} {i : Nat} {xs : List Cl} {A : Option Addr} {c : Nat} {w W W' : World}
theorem WtQ.next (h : WtQ s m i xs A c w W) (hb : newer W W') : WtQ s m i xs A c w W' :=
  ⟨newer_trans h.nw hb, h.xb.below hb h.xb.lt, h.rb.below hb h.rb.lt, h.ob.below hb h.ob.lt, own_below h.own hb, fun x hx => by
    obtain ⟨g, h1, h2⟩ := h.col x hx
    exact ⟨g, h1, own_below h2 hb⟩, h.eq, h.ln, h.ap⟩
/-- One column more. -/
theorem WtQ.add (h : WtQ s m i xs A c w W) {x y : Cl} (hx : s.cs[i]? = some x) {g cp : Nat} (hy : y = ⟨x.beds.map (wetBd m), some ⟨g, 0, none⟩, cp⟩) (hc : W.ownsRow w.heap.size 69 8 (.slice (some ⟨g, 0, none⟩) y.beds.length cp) y.beds.length (y.beds.flatMap bdL)) (hfar : ∀ x ∈ xs, x.a ≠ some ⟨g, 0, none⟩)
    {g2 c2 : Nat} (hown : W'.ownsRow w.heap.size 66 1 (.slice (some ⟨g2, 0, none⟩) (xs.length + 1) c2) (xs.length + 1) (xs.flatMap clL ++ [clV y])) (hw : (A = some ⟨g2, 0, none⟩ ∧ c2 = c ∧ W.grownBy W' (some g2)) ∨ (W.heap.size ≤ g2 ∧ W.grownBy W' none)) :
    Whole W' (w.heap.size + 1 + 1) 24 #[.slice A xs.length c, vi s.least] ∧ WtQ s m (i + 1) (xs ++ [y]) (some ⟨g2, 0, none⟩) c2 w (W'.setCell ⟨w.heap.size + 1 + 1, 0, none⟩ (.slice (some ⟨g2, 0, none⟩) (xs.length + 1) c2)) := by
  have hgr : W.grownBy W' (Value.slice A xs.length c).ownBlock := by
    rcases hw with ⟨h1, _, h3⟩ | ⟨_, h3⟩
    · rw [h1]; exact h3
    · exact h3.but _
  have k1 := h.xb.grown hgr (fun e => own_ne h.own h.xb (by decide) e.symm)
  have k2 := h.rb.grown hgr (fun e => own_ne h.own h.rb (by decide) e.symm)
  have k3 := h.ob.grown hgr (fun e => own_ne h.own h.ob (by decide) e.symm)
  have k4 : ∀ (x : Cl) (g : Nat), W.ownsRow w.heap.size 69 8 (.slice (some ⟨g, 0, none⟩) x.beds.length x.cp) x.beds.length (x.beds.flatMap bdL) → W'.ownsRow w.heap.size 69 8 (.slice (some ⟨g, 0, none⟩) x.beds.length x.cp) x.beds.length (x.beds.flatMap bdL) := fun x g h2 => h2.kept hgr (.inr (fun e => own_own_ne h2 h.own (by decide) g rfl (e ▸ rfl)))
  have hnw : newer w W' := by
    rcases hw with ⟨h1, _, h3⟩ | ⟨_, h3⟩
    · refine Below.trans h.nw (below_of_grown h3 (own_ge h.own g2 (by rw [h1]; rfl)) h.nw.size)
    · exact newer_trans h.nw (below_grown h3 (fun q e => by cases e) (Nat.le_refl _))
  have hlt := k3.lt
  refine ⟨k3, hnw.setCell (p := ⟨w.heap.size + 1 + 1, 0, none⟩) (by show w.heap.size ≤ w.heap.size + 1 + 1; omega) _, k1.far (p := ⟨w.heap.size + 1 + 1, 0, none⟩) (by show w.heap.size ≠ w.heap.size + 1 + 1; omega) _, k2.far (p := ⟨w.heap.size + 1 + 1, 0, none⟩) (by show w.heap.size + 1 ≠ w.heap.size + 1 + 1; omega) _, ?_, ?_, fun z hz => ?_, ?_, by rw [List.length_append, h.ln]; rfl, fun p q u v hp hq hpq => ?_⟩
  · rw [List.length_append]
    exact k3.set 0 _
  · rw [List.length_append, List.flatMap_append]
    exact own_set hown (own_ne hown k3 (by decide)) _
  · rcases List.mem_append.1 hz with hz | hz
    · obtain ⟨g', h1, h2⟩ := h.col z hz
      have h3 := k4 z g' h2
      exact ⟨g', h1, own_set h3 (own_ne h3 k3 (by decide)) _⟩
    · obtain rfl : z = y := List.mem_singleton.1 hz
      have h3 := k4 z g (by rw [hy] at hc ⊢; exact hc)
      exact ⟨g, by rw [hy], own_set h3 (own_ne h3 k3 (by decide)) _⟩
  · rw [List.map_append, h.eq, List.take_add_one, hx, List.map_append]
    congr 1
    rw [hy]
    rfl
  · have hya : y.a = some ⟨g, 0, none⟩ := by rw [hy]
    have hin : ∀ (r : Nat) (t : Cl), (xs ++ [y])[r]? = some t → (r < xs.length ∧ xs[r]? = some t) ∨ (r = xs.length ∧ t = y) := fun r t ht => by
      by_cases hr : r < xs.length
      · rw [List.getElem?_append_left hr] at ht
        exact .inl ⟨hr, ht⟩
      · rw [List.getElem?_append_right (by omega)] at ht
        obtain ⟨h1, h2⟩ := List.getElem?_eq_some_iff.1 ht
        simp at h1
        refine .inr ⟨by omega, ?_⟩
        rw [← h2]
        simp
    rcases hin p u hp with ⟨a1, a2⟩ | ⟨a1, rfl⟩ <;> rcases hin q v hq with ⟨b1, b2⟩ | ⟨b1, rfl⟩
    · exact h.ap p q u v a2 b2 hpq
    · rw [hya]; exact hfar u (List.mem_of_getElem? a2)
    · rw [hya]; exact (hfar v (List.mem_of_getElem? b2)).symm
    · omega
/-- All columns; the result's box is written. -/
theorem WtQ.done (h : WtQ s m s.cs.length xs A c w W) (u v : Value) : SmOk ⟨xs, A, c, s.least⟩ ((W.setCell ⟨w.heap.size + 1, 0, none⟩ u).setCell ⟨w.heap.size + 1, 1, none⟩ v) ∧ Sm.sd ⟨xs, A, c, s.least⟩ = wetS s.sd m ∧ newer w ((W.setCell ⟨w.heap.size + 1, 0, none⟩ u).setCell ⟨w.heap.size + 1, 1, none⟩ v) ∧ Whole ((W.setCell ⟨w.heap.size + 1, 0, none⟩ u).setCell ⟨w.heap.size + 1, 1, none⟩ v) (w.heap.size + 1) 24 #[u, v] ∧ SmOwn w.heap.size ⟨xs, A, c, s.least⟩ ((W.setCell ⟨w.heap.size + 1, 0, none⟩ u).setCell ⟨w.heap.size + 1, 1, none⟩ v) := by
  refine ⟨⟨?_, fun x hx => ?_⟩, ?_, (h.nw.setCell (p := ⟨w.heap.size + 1, 0, none⟩) (Nat.le_succ _) u).setCell (p := ⟨w.heap.size + 1, 1, none⟩) (Nat.le_succ _) v, (h.rb.set 0 u).set 1 v, own_set (own_set h.own (own_ne h.own h.rb (by decide)) u) (own_ne h.own h.rb (by decide)) v, fun x hx => by
    obtain ⟨g, h1, h2⟩ := h.col x hx
    exact ⟨g, h1, own_set (own_set h2 (own_ne h2 h.rb (by decide)) u) (own_ne h2 h.rb (by decide)) v⟩, h.ap⟩
  · exact row_of_own (by omega) (fun _ => rfl) (own_set (own_set h.own (own_ne h.own h.rb (by decide)) u) (own_ne h.own h.rb (by decide)) v)
  · obtain ⟨g, h1, h2⟩ := h.col x hx
    rw [h1]
    exact row_of_own (by omega) (fun _ => rfl) (own_set (own_set h2 (own_ne h2 h.rb (by decide)) u) (own_ne h2 h.rb (by decide)) v)
  · have e := h.eq
    rw [List.take_length] at e
    show (⟨xs.map (fun x => x.beds), s.least⟩ : Sd) = ⟨(s.cs.map fun x => x.beds).map fun l => l.map (wetBd m), s.least⟩
    rw [e, List.map_map]
    rfl
end
set_option maxRecDepth 100000 in
set_option maxHeartbeats 1000000 in
theorem wetterO_any (s : Sm) (m : Int) (w : World) (hok : SmOk s w) (hs : SdOk s.sd) (m0 : 0 ≤ m) (m1 : m ≤ 100000) : Calls Try.prog 39 #[smV s, vi m] w fun e w' => ∃ s2 : Sm, e = .returned (smV s2) ∧ s2.sd = wetS s.sd m ∧ SmOk s2 w' ∧ SmOwn w.heap.size s2 w' ∧ newer w w' := by
  have hcl : s.cs.length ≤ 12 := by have h1 := hs.cols; rw [sd_len] at h1; omega
  have H0 : Hid (WtQ s m 0 [] none 0 w (((w.alloc (.cells (smC s) 24)).alloc (.cells #[.slice none 0 0, vi 0] 24)).alloc (.cells #[.slice none 0 0, vi s.least] 24))) := Lib.hid (by
    have e1 := newer_allocH w (.cells (smC s) 24)
    have e2 := newer_allocH (w.alloc (.cells (smC s) 24)) (.cells #[.slice none 0 0, vi 0] 24)
    have e3 := newer_allocH ((w.alloc (.cells (smC s) 24)).alloc (.cells #[.slice none 0 0, vi 0] 24)) (.cells #[.slice none 0 0, vi s.least] 24)
    have a1 := Whole.made w 24 (smC s)
    have a2 := Whole.made (w.alloc (.cells (smC s) 24)) 24 #[.slice none 0 0, vi 0]
    have a3 := Whole.made ((w.alloc (.cells (smC s) 24)).alloc (.cells #[.slice none 0 0, vi 0] 24)) 24 #[.slice none 0 0, vi s.least]
    rw [World.size_alloc] at a2
    rw [World.size_alloc, World.size_alloc] at a3
    exact ⟨newer_trans (newer_trans e1 e2) e3, (a1.below e2 a1.lt).below e3 (by simp; omega), a2.below e3 a2.lt, a3, ⟨rfl, .inl ⟨rfl, rfl⟩⟩, fun x hx => by simp at hx, rfl, rfl, fun p q x y hx => by simp at hx⟩)
  have HOK := Lib.hid hok
  have HSD := Lib.hid hs
  obtain ⟨i0, hi0, hz0, hz1, hz2⟩ := info_parts info_col66q
  obtain ⟨i9, hj0, hj1, hj2, hj3⟩ := info_parts info_bd69q
  have HI9 := Lib.hid (And.intro hj0 (And.intro hj1 (And.intro hj2 hj3)))
  clear hj0 hj1 hj2 hj3
  have HI := Lib.hid (And.intro hi0 (And.intro hz0 (And.intro hz1 hz2)))
  have x0 := H0.out.xb.at 0 (v := .slice s.a s.cs.length s.c) rfl
  have x1 := H0.out.xb.at 1 (v := vi s.least) rfl
  obtain ⟨y0, hy0⟩ := get_of_lt (l := s.cs) (k := 0) (by have h1 := hs.cols; rw [sd_len] at h1; omega)
  obtain ⟨b1, o1, ea, _, _⟩ := rowC hok.cs hy0
  have HSA := Lib.hid ea
  rw [ea] at x0
  clear hok hs hi0 hz0 hz1 hz2 ea hy0
  go_enter Try.func39, Try.ntmps39
  go_wp2_with fail
  go_loopw [6] (fun s6 wr => ∃ (i : Nat) (xs : List Cl) (A : Option Addr) (c : Nat), i ≤ s.cs.length ∧ s6 = vi i ∧ WtQ s m i xs A c w wr) (fun s6 _ => s.cs.length - (intOf s6).toNat)
  case atStart => exact ⟨0, [], none, 0, Nat.zero_le _, rfl, H0.out⟩
  case round =>
    obtain ⟨i, xs, A, c, hi, rfl, hj⟩ := hrel
    clear x0 x1 H0
    have HJ := Lib.hid hj
    clear hj
    obtain ⟨wo, rfl⟩ : ∃ wo : World, wo = wr := ⟨_, rfl⟩
    have x0 := HJ.out.xb.at 0 (v := .slice s.a s.cs.length s.c) rfl
    rw [HSA.out] at x0
    by_cases hlt : i < s.cs.length
    · obtain ⟨x, hx⟩ := get_of_lt hlt
      have hxm : x.beds ∈ s.sd.cols := List.mem_map.2 ⟨x, List.mem_of_getElem? hx, rfl⟩
      have hxl : x.beds.length = s.sd.n := HSD.out.len _ hxm
      have hxn : x.beds.length ≤ 5 ∧ 1 ≤ x.beds.length := by have h1 := HSD.out.beds; omega
      have HX := Lib.hid (And.intro hx (HSD.out.bd _ hxm))
      obtain ⟨b2, o2, ea, _, cx⟩ := rowC (HOK.out.next HJ.out.nw).cs hx
      rw [HSA.out] at ea
      obtain ⟨rfl, rfl⟩ : b1 = b2 ∧ o1 = o2 := by simpa using ea
      have HRO := Lib.hid (row_alloc ((HOK.out.next HJ.out.nw).bd x (List.mem_of_getElem? hx)) (.cells #[] 69))
      have HWN := Lib.hid (Whole.made wo 69 #[])
      clear hx hxm hxl ea
      have hn0 := newer_allocH wo (.cells #[] 69)
      have x0b := keep_cell x0 hn0
      have cxb := keep_cell cx hn0
      clear hn0
      go_wp2_with (at_builtin; go_loud ((refine wpList_plain rfl fun K hK => wp_append_owncopy (enc := bdL) (size := 8) wo.heap.size (.tmp 19) (.tmp 24) 66 69 i9 (.agg #[vi 0, vi 0, vi 0, vi 0, vi 0, vi 0, vi 0, vi 0]) 64 Try.underlying66 HI9.out.1 HI9.out.2.1 HI9.out.2.2.1 HI9.out.2.2.2 rfl (by omega) (by omega) (fun _ => rfl) rfl wo.heap.size rfl (Nat.le_refl _) HWN.out x.beds x.a x.cp rfl (by omega) HRO.out (by rw [World.size_alloc]; omega) fun B cp w3 hB hb hc => hK _ _ ?_); have HB := Lib.hid (And.intro hB (newer_trans (newer_allocH wo (.cells #[] 69)) hb)); clear hB hb hc))
      obtain ⟨g, rfl, _⟩ := own_some HB.out.1 (by omega)
      have H3 := Lib.hid (And.intro HB.out.1 HB.out.2)
      have hown := HB.out.1
      have hgs : wo.heap.size ≤ g := own_ge hown g rfl
      have HGS := Lib.hid hgs
      clear hown hgs cx x0b cxb HB HRO HWN
      go_wp2_with fail
      go_loopw [8] (fun s8 wr => ∃ k : Nat, k ≤ x.beds.length ∧ s8 = vi k ∧ newer wo wr ∧ wr.ownsRow wo.heap.size 69 8 (.slice (some ⟨g, 0, none⟩) x.beds.length cp) x.beds.length ((wetTo m x.beds k).flatMap bdL)) (fun s8 _ => x.beds.length - (intOf s8).toNat)
      case atStart => exact ⟨0, Nat.zero_le _, rfl, H3.out.2, by rw [wetTo_zero]; exact H3.out.1⟩
      case round =>
        obtain ⟨k, hk, rfl, q1, q2⟩ := hrel
        clear H3
        by_cases hlt2 : k < x.beds.length
        · obtain ⟨bd, hbd⟩ := get_of_lt hlt2
          obtain ⟨b2, o2, e2, _, d0, d1, d2, d3, d4, d5, d6, d7⟩ := row8 (row_of_own (enc := bdL) (size := 8) (by omega) (fun _ => rfl) q2) (wetTo_get hbd)
          obtain ⟨rfl, rfl⟩ : g = b2 ∧ 0 = o2 := by simpa using e2
          simp only [Nat.zero_add] at d7
          obtain ⟨cs, hcs⟩ := own_cells q2
          have f7 := hcs.free (k * 8 + 7)
          have hbb := (bdB_parts (HX.out.2 bd (List.mem_of_getElem? hbd))).2.2.2.2
          have HQ := Lib.hid (And.intro q1 (And.intro q2 hbd))
          obtain ⟨wi, rfl⟩ : ∃ wi : World, wi = wr := ⟨_, rfl⟩
          clear q1 q2 e2 hcs d0 d1 d2 d3 d4 d5 d6 hbd
          have HN : ∀ v : Int, v = mnI 100000 (bd.wa.hi + m) → Hid (newer wo (wi.setCell ⟨g, k * 8 + 7, none⟩ (vi v)) ∧ (wi.setCell ⟨g, k * 8 + 7, none⟩ (vi v)).ownsRow wo.heap.size 69 8 (.slice (some ⟨g, 0, none⟩) x.beds.length cp) x.beds.length ((wetTo m x.beds (k + 1)).flatMap bdL)) := by
            intro v hv
            have h1 := wetTo_get (m := m) HQ.out.2.2
            refine Lib.hid ⟨HQ.out.1.setCell (p := ⟨g, k * 8 + 7, none⟩) HGS.out _, ?_⟩
            rw [← wetTo_set HQ.out.2.2, show wetBd m bd = { bd with wa := ⟨bd.wa.lo, v⟩ } by rw [hv]; rfl, ← flat_set7 _ _ _ _ h1]
            exact own_setAt HQ.out.2.1
          by_cases hmn : bd.wa.hi + m < 100000
          · have HE := HN (bd.wa.hi + m) (by unfold mnI; rw [if_pos hmn])
            clear HN
            go_wp2_with fail
            refine ⟨⟨k + 1, by omega, rfl, HE.out.1, HE.out.2⟩, ?_⟩
            simp [intOf]
            omega
          · have HE := HN 100000 (by unfold mnI; rw [if_neg hmn])
            clear HN
            go_wp2_with fail
            refine ⟨⟨k + 1, by omega, rfl, HE.out.1, HE.out.2⟩, ?_⟩
            simp [intOf]
            omega
        · obtain rfl : k = x.beds.length := by omega
          rw [wetTo_all] at q2
          obtain ⟨y, hy⟩ : ∃ y : Cl, y = ⟨x.beds.map (wetBd m), some ⟨g, 0, none⟩, cp⟩ := ⟨_, rfl⟩
          have HJ2 := Lib.hid (HJ.out.next q1)
          have hyl : y.beds.length = x.beds.length := by rw [hy]; simp
          have hyb : y.beds = x.beds.map (wetBd m) := by rw [hy]
          have hn1 := newer_allocH wr (.cells #[.slice (some ⟨g, 0, none⟩) x.beds.length cp] 66)
          have HADD := Lib.hid (fun g2 c2 w5 => (HJ2.out.next hn1).add (W' := w5) HX.out.1 hy (by rw [hyl, hyb]; exact own_more (own_below q2 hn1) HJ.out.nw.size) (fun z hz e => by obtain ⟨g', h1, h2⟩ := HJ.out.col z hz; obtain ⟨cs', h3⟩ := own_cells h2; have h4 := h3.lt; have h5 := HGS.out; rw [h1] at e; injection e with e; injection e with e; omega) (g2 := g2) (c2 := c2))
          have hcy : clV y = .slice (some ⟨g, 0, none⟩) x.beds.length cp := by rw [hy]; simp
          have HJ3 := Lib.hid (HJ2.out.next hn1)
          have HXS := Lib.hid (show xs.length ≤ 12 by have := HJ.out.ln; omega)
          have HCW : Hid ((wr.alloc (.cells #[.slice (some ⟨g, 0, none⟩) x.beds.length cp] 66)).cell? ⟨wr.heap.size, 0, none⟩ = some (.slice (some ⟨g, 0, none⟩) x.beds.length cp)) := Lib.hid ((Whole.made wr 66 #[.slice (some ⟨g, 0, none⟩) x.beds.length cp]).at 0 rfl)
          rw [hcy] at HADD
          have o0 := HJ2.out.ob.at 0 (v := .slice A xs.length c) rfl
          clear q1 q2 hyl hyb hn1 hcy hy
          go_wp2_with (at_builtin; go_loud ((refine wpList_plain rfl fun _ hK => wp_append_one (.tmp 47) (.tmp 49) 22 rfl w.heap.size 66 i0 (.slice none 0 0) 24 Try.underlying22 HI.out.1 HI.out.2.1 HI.out.2.2.1 HI.out.2.2.2 rfl A xs.length c (xs.flatMap clL) rfl HJ3.out.own ⟨wr.heap.size, 0, none⟩ 1 (.slice (some ⟨g, 0, none⟩) x.beds.length cp) rfl HCW.out rfl (by have := HXS.out; unfold maxLen; omega) (by have := HXS.out; omega) HJ3.out.nw.size fun g2 c2 w5 hown hwh => hK _ _ ?_); have HE := Lib.hid (HADD.out g2 c2 w5 hown hwh); have p0 := HE.out.1.at 0 (v := .slice A xs.length c) rfl; have pf0 := HE.out.1.free 0; clear hown hwh))
          refine ⟨⟨i + 1, xs ++ [y], some ⟨g2, 0, none⟩, c2, by omega, rfl, HE.out.2⟩, ?_⟩
          simp [intOf]
          omega
    · obtain rfl : i = s.cs.length := by omega
      have o0 := HJ.out.ob.at 0 (v := .slice A xs.length c) rfl
      have o1 := HJ.out.ob.at 1 (v := vi s.least) rfl
      have r0 := HJ.out.rb.at 0 (v := .slice none 0 0) rfl
      have r1 := HJ.out.rb.at 1 (v := vi 0) rfl
      have f0 := HJ.out.rb.free 0
      have f1 := HJ.out.rb.free 1
      have HF := Lib.hid (HJ.out.done (.slice A xs.length c) (vi s.least))
      have z0 := HF.out.2.2.2.1.at 0 (v := .slice A xs.length c) rfl
      have z1 := HF.out.2.2.2.1.at 1 (v := vi s.least) rfl
      go_wp2_with fail
      exact bodyPost_ret (v := .agg #[.slice A xs.length c, vi s.least]) (by simp [results, Try.results39, go_sem, z0, z1]) rfl ⟨⟨xs, A, c, s.least⟩, rfl, HF.out.2.1, HF.out.1, HF.out.2.2.2.2, HF.out.2.2.1⟩

end Go.Proofs.Ytkenokpobbichaa
