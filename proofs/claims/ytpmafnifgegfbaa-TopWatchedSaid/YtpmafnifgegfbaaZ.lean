/- All whole turns that are possible. -/
import Derived.Test.YtpmafnifgegfbaaY
namespace Go.Proofs.Ytpmafnifgegfbaa
open Go.RowKit Go.Shelf Go.Deep

/-- All whole turns that were found (the first 60), with their looks. -/
structure FoundOk (y : Sm) (S : List (List (Option Int))) (b : Nat) (xs : List Ln) (ls : List Nat) (A1 : Option Addr) (c1 : Nat) (A2 : Option Addr) (c2 : Nat) (W : World) : Prop where
  r1 : W.ownsRow b 24 1 (.slice A1 xs.length c1) xs.length (xs.flatMap lnL)
  r2 : W.ownsRow b 120 1 (.slice A2 ls.length c2) ls.length (ls.map ptV)
  xl : xs.map (·.l) = (S.take 60).map (turL y.s.tools)
  xr : ∀ x ∈ xs, W.ownsRow b 3 1 (.slice x.a x.l.length x.c) x.l.length (x.l.map vi)
  ll : ls.length = (S.take 60).length
  lk : ∀ (i : Nat) (k : List (Option Int)) (l : Nat), (S.take 60)[i]? = some k → ls[i]? = some l → ∃ ms A c, LookOk y k b l ms A c W
theorem FoundOk.next {y : Sm} {S : List (List (Option Int))} {b : Nat} {xs : List Ln} {ls : List Nat} {A1 : Option Addr} {c1 : Nat} {A2 : Option Addr} {c2 : Nat} {W W' : World} (h : FoundOk y S b xs ls A1 c1 A2 c2 W) (hb : newer W W') : FoundOk y S b xs ls A1 c1 A2 c2 W' :=
  ⟨own_below h.r1 hb, own_below h.r2 hb, h.xl, fun x hx => own_below (h.xr x hx) hb, h.ll, fun i k l h1 h2 => let ⟨ms, A, c, h3⟩ := h.lk i k l h1 h2; ⟨ms, A, c, h3.next hb⟩⟩
theorem FoundOk.low {y : Sm} {S : List (List (Option Int))} {b b' : Nat} {xs : List Ln} {ls : List Nat} {A1 : Option Addr} {c1 : Nat} {A2 : Option Addr} {c2 : Nat} {W : World} (h : FoundOk y S b xs ls A1 c1 A2 c2 W) (hb : b' ≤ b) : FoundOk y S b' xs ls A1 c1 A2 c2 W :=
  ⟨own_more h.r1 hb, own_more h.r2 hb, h.xl, fun x hx => own_more (h.xr x hx) hb, h.ll, fun i k l h1 h2 => let ⟨ms, A, c, h3⟩ := h.lk i k l h1 h2; ⟨ms, A, c, h3.low hb⟩⟩
/-- All that is possible. -/
abbrev allT (s : Sd) : List (List (Option Int)) := outT s s.tools.length 0 (freeL s)
theorem free_len (s : Sd) : (freeL s).length = s.tools.length := by unfold freeL; rw [List.length_replicate]
set_option maxRecDepth 100000 in
set_option maxHeartbeats 2000000 in
theorem lists_any (y : Sm) (w : World) (hok : SmOk y w) (hs : SdOk y.s) : Calls Try.prog 105 #[smV y] w fun e w' => ∃ xs ls A1 c1 A2 c2, e = .returned (.tuple #[.slice A1 xs.length c1, .slice A2 ls.length c2, .bool (decide ((allT y.s).length ≤ 60))]) ∧ newer w w' ∧ FoundOk y (allT y.s) w.heap.size xs ls A1 c1 A2 c2 w' := by
  have HOK := Lib.hid hok
  have HS := Lib.hid hs
  have e0 := Whole.made w 40 (smC y)
  have hx : ∀ o1 o2 o3, Whole ((((w.alloc (.cells (smC y) 40)).alloc o1).alloc o2).alloc o3) w.heap.size 40 (smC y) := fun o1 o2 o3 => ((e0.alloc o1).alloc o2).alloc o3
  have x0 := (hx (.cells #[.slice none 0 0] 33) (.cells #[.slice none 0 0] 138) (.cells #[.bool false] 4)).at 0 (v := .slice y.sa y.s.spots.length y.sc) rfl
  have x1 := (hx (.cells #[.slice none 0 0] 33) (.cells #[.slice none 0 0] 138) (.cells #[.bool false] 4)).at 1 (v := vi y.s.strain) rfl
  have x2 := (hx (.cells #[.slice none 0 0] 33) (.cells #[.slice none 0 0] 138) (.cells #[.bool false] 4)).at 2 (v := .slice y.ta y.s.tools.length y.tc) rfl
  have x3 := (hx (.cells #[.slice none 0 0] 33) (.cells #[.slice none 0 0] 138) (.cells #[.bool false] 4)).at 3 (v := vi y.s.day) rfl
  have x4 := (hx (.cells #[.slice none 0 0] 33) (.cells #[.slice none 0 0] 138) (.cells #[.bool false] 4)).at 4 (v := .slice y.ra y.s.reads.length y.rc) rfl
  clear hx e0 hok hs
  go_enter Try.func105, Try.ntmps105
  go_wp2_with fail
  have hn8 := HS.out.few
  refine (open_any y _ HS.out.few).mono ?_
  rintro e w1 ⟨q, rfl, hq, hqs, hb⟩
  have HW1 : Hid (newer w w1 ∧ Whole w1 w.heap.size 40 (smC y) ∧ Whole w1 (w.heap.size + 1) 33 #[.slice none 0 0] ∧ Whole w1 (w.heap.size + 1 + 1) 138 #[.slice none 0 0] ∧ Whole w1 (w.heap.size + 1 + 1 + 1) 4 #[.bool false] ∧ Whole w1 q 3 (freeC y.s.tools.length y.s.tools.length).toArray ∧ w.heap.size + 4 ≤ q) := Lib.hid (by
    have n1 := newer_allocH w (.cells (smC y) 40)
    have n2 := newer_allocH (w.alloc (.cells (smC y) 40)) (.cells #[.slice none 0 0] 33)
    have n3 := newer_allocH ((w.alloc (.cells (smC y) 40)).alloc (.cells #[.slice none 0 0] 33)) (.cells #[.slice none 0 0] 138)
    have n4 := newer_allocH (((w.alloc (.cells (smC y) 40)).alloc (.cells #[.slice none 0 0] 33)).alloc (.cells #[.slice none 0 0] 138)) (.cells #[.bool false] 4)
    have m1 := (((Whole.made w 40 (smC y)).alloc (.cells #[.slice none 0 0] 33)).alloc (.cells #[.slice none 0 0] 138)).alloc (.cells #[.bool false] 4)
    have m2 := ((Whole.made (w.alloc (.cells (smC y) 40)) 33 #[.slice none 0 0]).alloc (.cells #[.slice none 0 0] 138)).alloc (.cells #[.bool false] 4)
    have m3 := (Whole.made ((w.alloc (.cells (smC y) 40)).alloc (.cells #[.slice none 0 0] 33)) 138 #[.slice none 0 0]).alloc (.cells #[.bool false] 4)
    have m4 := Whole.made (((w.alloc (.cells (smC y) 40)).alloc (.cells #[.slice none 0 0] 33)).alloc (.cells #[.slice none 0 0] 138)) 4 #[.bool false]
    simp only [World.size_alloc] at m2 m3 m4 hqs
    exact ⟨newer_trans (newer_trans (newer_trans (newer_trans n1 n2) n3) n4) hb, m1.below hb m1.lt, m2.below hb m2.lt, m3.below hb m3.lt, m4.below hb m4.lt, hq, by omega⟩)
  clear hq hqs hb x0 x1 x2 x3 x4
  have hfa := HW1.out.2.2.2.2.1.alloc (.cells #[.slice (some ⟨q, 0, none⟩) (freeL y.s).length (freeL y.s).length] 24)
  have f0 := hfa.at 0 (v := .bool false) rfl
  have ff := hfa.free 0
  clear hfa
  go_upto_region 5 with fail
  obtain ⟨T, hTe⟩ : ∃ T : FP, T = ⟨y, w.heap.size, w.heap.size, w1.heap.size, q, w.heap.size + 1 + 1 + 1, w.heap.size + 1, w.heap.size + 1 + 1, w1.heap.size + 1, w1.heap.size + 2⟩ := ⟨_, rfl⟩
  have hT : FpOk T := by
    rw [hTe]
    have h1 := HW1.out.2.2.2.2.2.2
    have h2 := HW1.out.2.2.2.2.2.1.lt
    exact ⟨HS.out, Nat.le_refl _, by simp only []; omega, by simp only []; omega, by simp only []; omega, by simp only []; omega, by simp only []; omega, by simp only []; omega, by simp only []; omega⟩
  have hty : T.y = y := by rw [hTe]
  have HTB := Lib.hid (show T.lb = w.heap.size + 1 ∧ T.kb = w.heap.size + 1 + 1 ∧ T.fb = w.heap.size + 1 + 1 + 1 ∧ T.base = w1.heap.size + 2 ∧ T.B = w.heap.size ∧ w.heap.size + 4 ≤ T.q by rw [hTe]; exact ⟨rfl, rfl, rfl, rfl, rfl, HW1.out.2.2.2.2.2.2⟩)
  obtain ⟨wn, hwn⟩ : ∃ wn, wn = ((w1.alloc (.cells #[.slice (some ⟨q, 0, none⟩) (freeL y.s).length (freeL y.s).length] 24)).setCell ⟨w.heap.size + 1 + 1 + 1, 0, none⟩ (.bool true)).alloc (.cells #[.func (.func 131) #[] #[ptV w.heap.size, ptV w1.heap.size, ptV (w.heap.size + 1 + 1 + 1), ptV (w.heap.size + 1), ptV (w.heap.size + 1 + 1), ptV (w1.heap.size + 1)]] 193) := ⟨_, rfl⟩
  have HM : Hid (FdM T (freeL y.s) [] [] [] none 0 none 0 wn ∧ newer w wn) := Lib.hid (by
    obtain ⟨g1, g2, g3, g4, g5, g6, g7⟩ := HW1.out
    have a1 := newer_allocH w1 (.cells #[.slice (some ⟨q, 0, none⟩) (freeL y.s).length (freeL y.s).length] 24)
    have far : ∀ {k : Nat} {t : TypeId} {cs : Array Value}, Whole w1 k t cs → k ≠ w.heap.size + 1 + 1 + 1 → Whole wn k t cs := fun hw hk => by
      rw [hwn]
      exact ((hw.alloc _).far (p := ⟨w.heap.size + 1 + 1 + 1, 0, none⟩) hk _).alloc _
    have hsz : wn.heap.size = w1.heap.size + 2 := by rw [hwn]; simp [World.setCell]
    have hlt1 := g5.lt
    have hlt2 := g6.lt
    have hnw : newer w wn := by
      rw [hwn]
      exact newer_trans (Below.setCell (newer_trans g1 a1) (p := ⟨w.heap.size + 1 + 1 + 1, 0, none⟩) (by show w.heap.size ≤ w.heap.size + 1 + 1 + 1; omega) _) (newer_allocH _ _)
    refine ⟨?_, hnw⟩
    rw [hTe]
    refine ⟨far g2 (by simp only []; omega), (HOK.out.at).same (fun k hk => hnw.block k hk), ?_, ?_, ?_, far g3 (by simp only []; omega), far g4 (by simp only []; omega), ?_, ⟨rfl, .inl ⟨rfl, rfl⟩⟩, ⟨rfl, .inl ⟨rfl, rfl⟩⟩, rfl, fun x hx => by simp at hx, rfl, fun i k l h => by simp at h, Nat.le_of_eq hsz.symm⟩
    · rw [hwn]
      exact ((Whole.made w1 24 _).far (p := ⟨w.heap.size + 1 + 1 + 1, 0, none⟩) (by show w1.heap.size ≠ w.heap.size + 1 + 1 + 1; omega) _).alloc _
    · have h1 := far g6 (by omega)
      rw [show (freeC y.s.tools.length y.s.tools.length).toArray = ((freeL y.s).flatMap koL).toArray by rw [← free_cells]] at h1
      exact h1
    · rw [hwn]
      exact ((g5.alloc _).set 0 (.bool true)).alloc _
    · have h1 := Whole.made ((w1.alloc (.cells #[.slice (some ⟨q, 0, none⟩) (freeL y.s).length (freeL y.s).length] 24)).setCell ⟨w.heap.size + 1 + 1 + 1, 0, none⟩ (.bool true)) 193 #[.func (.func 131) #[] #[ptV w.heap.size, ptV w1.heap.size, ptV (w.heap.size + 1 + 1 + 1), ptV (w.heap.size + 1), ptV (w.heap.size + 1 + 1), ptV (w1.heap.size + 1)]]
      rw [← hwn] at h1
      have e1 : ((w1.alloc (.cells #[.slice (some ⟨q, 0, none⟩) (freeL y.s).length (freeL y.s).length] 24)).setCell ⟨w.heap.size + 1 + 1 + 1, 0, none⟩ (.bool true)).heap.size = w1.heap.size + 1 := by simp [World.setCell]
      rw [e1] at h1
      exact h1)
  have HF := Lib.hid (find_any T hT y.s.tools.length 0 (freeL y.s) [] [] [] none 0 none 0 wn (by rw [hty]; omega) ⟨by rw [hty]; exact free_len y.s, fun j _ => free_none y.s j, fun o ho k hk => (by
    have := List.eq_of_mem_replicate ho
    rw [this] at hk
    cases hk), fun j t hj => absurd hj (Nat.not_lt_zero _)⟩ HM.out.1)
  have f6 := HM.out.1.nb.at 0 (v := .func (.func 131) #[] (fpC T)) rfl
  rw [← hwn]
  have hpc : fpC T = #[ptV w.heap.size, ptV w1.heap.size, ptV (w.heap.size + 1 + 1 + 1), ptV (w.heap.size + 1), ptV (w.heap.size + 1 + 1), ptV (w1.heap.size + 1)] := by rw [hTe]
  have hnb : T.nb = w1.heap.size + 1 := by rw [hTe]
  rw [hpc, hnb] at f6
  rw [hpc] at HF
  simp only [List.append_toArray, List.cons_append, List.nil_append] at HF
  have HTY := Lib.hid hty
  have HTO := Lib.hid hT
  clear hTe hT hty hpc hnb hwn f0 ff
  go_wp2_with fail
  refine (HF.out).mono ?_
  rintro e w2 ⟨⟨v, rfl⟩, xs, ls, A1, c1, A2, c2, hm, hmv, hl1, hl2⟩
  rw [HTY.out] at hm
  have HE := Lib.hid (And.intro hm hmv)
  have l0 := hm.lb.at 0 (v := .slice A1 xs.length c1) rfl
  have k0 := hm.kb.at 0 (v := .slice A2 ls.length c2) rfl
  have f0 := hm.fb.at 0 (v := .bool (decide ((allT y.s).length ≤ 60))) rfl
  have lf := hm.lb.free 0
  have kf := hm.kb.free 0
  have ff := hm.fb.free 0
  rw [HTB.out.1] at l0 lf
  rw [HTB.out.2.1] at k0 kf
  rw [HTB.out.2.2.1] at f0 ff
  obtain ⟨few, hfew⟩ : ∃ q, q = decide ((allT y.s).length ≤ 60) := ⟨_, rfl⟩
  rw [← hfew] at f0
  have HFEW := Lib.hid hfew
  clear hm hmv hl1 hl2 hfew f6
  go_wp2_with fail
  refine wp_words (by kernel_rfl) (region_told 5 (by kernel_rfl) (by kernel_rfl) (fun W => Below w2.heap.size w2 W) newer (pickD [vIs (.slice A1 xs.length c1), vIs (.slice A2 ls.length c2), vIs (.bool few), (fun _ _ => True), (fun _ _ => True)]) (fun h k => newer_trans h k) (pickD_stable _ ⟨vIs_st, vIs_st, vIs_st, (fun _ _ _ h _ => h), (fun _ _ _ h _ => h), trivial⟩) (Below.refl _ w2).drew (Below.refl _ _) ?_ ?_)
  · refine ⟨?_, ?_, ?_, ?_, ?_, trivial⟩
    · intro a W hG hR hO hp
      have h2 := hO.slot 2 (by kernel_rfl)
      have c0 := keep_cell l0 hG
      refine kY (v := .slice A1 xs.length c1) hG rfl ?_
      simp [slotOf] at h2
      simp [execOp, go_sem, h2, c0]
    · intro a W hG hR hO hp
      have h3 := hO.slot 3 (by kernel_rfl)
      have c0 := keep_cell k0 hG
      refine kY (v := .slice A2 ls.length c2) hG rfl ?_
      simp [slotOf] at h3
      simp [execOp, go_sem, h3, c0]
    · intro a W hG hR hO hp
      have h4 := hO.slot 4 (by kernel_rfl)
      have c0 := keep_cell f0 hG
      refine kY (v := .bool few) hG rfl ?_
      simp [slotOf] at h4
      simp [execOp, go_sem, h4, c0]
    · intro a W hG hR hO hp
      have h2 := hO.slot 2 (by kernel_rfl)
      have h12 : slotOf a 12 = .slice A1 xs.length c1 := hp.1
      have c0 := keep_cell l0 hG
      have g0 := hG.frozen (p := ⟨w.heap.size + 1, 0, none⟩) (World.block_lt_of_cell? w2 _ l0)
      rw [lf] at g0
      have s0 := setCell_same c0
      simp [slotOf] at h2 h12
      exact wp_stores (W' := W) (by simp [execOp, go_sem, h2, h12, c0, g0, s0]) ⟨undef, rfl, trivial, Below.refl _ _, hG⟩
    · intro a W hG hR hO hp
      have h3 := hO.slot 3 (by kernel_rfl)
      have h13 : slotOf a 13 = .slice A2 ls.length c2 := hp.1
      have c0 := keep_cell k0 hG
      have g0 := hG.frozen (p := ⟨w.heap.size + 1 + 1, 0, none⟩) (World.block_lt_of_cell? w2 _ k0)
      rw [kf] at g0
      have s0 := setCell_same c0
      simp [slotOf] at h3 h13
      exact wp_stores (W' := W) (by simp [execOp, go_sem, h3, h13, c0, g0, s0]) ⟨undef, rfl, trivial, Below.refl _ _, hG⟩
  · intro w3 hG hR
    rintro _ rfl _ rfl _ rfl
    change wpList _ _ _ _ _ _
    simp only [Act.put, List.setIfInBounds_toArray, List.set_cons_zero, List.set_cons_succ, List.drop_succ_cons, List.drop_zero]
    have l1 := keep_cell l0 hG
    have k1 := keep_cell k0 hG
    have f1 := keep_cell f0 hG
    have g1 := hG.frozen (p := ⟨w.heap.size + 1, 0, none⟩) (World.block_lt_of_cell? w2 _ l0)
    have g2 := hG.frozen (p := ⟨w.heap.size + 1 + 1, 0, none⟩) (World.block_lt_of_cell? w2 _ k0)
    have g3 := hG.frozen (p := ⟨w.heap.size + 1 + 1 + 1, 0, none⟩) (World.block_lt_of_cell? w2 _ f0)
    rw [lf] at g1
    rw [kf] at g2
    rw [ff] at g3
    have s1 := setCell_same l1
    have s2 := setCell_same k1
    have s3 := setCell_same f1
    have HG := Lib.hid hG
    clear hG hR l0 k0 f0 lf kf ff
    go_wp2_with fail
    refine bodyPost_ret (v := .tuple #[.slice A1 xs.length c1, .slice A2 ls.length c2, .bool few]) (by simp [results, Try.results105, go_sem, l1, k1, f1]) rfl ⟨xs, ls, A1, c1, A2, c2, by rw [HFEW.out], ?_, ?_⟩
    · have h1 := HE.out.2.low HTO.out (B := w.heap.size) (by rw [HTB.out.1]; omega) (fun q hq => by cases hq) (fun q hq => by cases hq) HM.out.2.size
      exact newer_trans (HM.out.2.trans h1) HG.out
    · have h1 := HE.out.1
      have hb : w.heap.size ≤ T.base := by rw [HTB.out.2.2.2.1]; have := HW1.out.1.size; omega
      have h2 : FoundOk y (allT y.s) T.base xs ls A1 c1 A2 c2 w2 := ⟨h1.r1, h1.r2, by have := h1.xl; rw [HTY.out] at this; exact this, h1.xr, h1.ll, by have := h1.lk; rw [HTY.out] at this; exact this⟩
      exact (h2.next HG.out).low hb

end Go.Proofs.Ytpmafnifgegfbaa
