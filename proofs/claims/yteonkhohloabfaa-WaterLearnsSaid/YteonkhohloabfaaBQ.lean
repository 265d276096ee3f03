/- Learn: its errors, and what it finds. -/
import Derived.Test.YteonkhohloabfaaBP
namespace Go.Proofs.Yteonkhohloabfaa
open Go.RowKit Go.Shelf

/-- The error of what is asked of Learn. -/
def lnErr (g : Gnd) (days : List Day) (l : List Rdg) : Int :=
  if faultN g days = 0 then (if 30 < l.length then 3 else if l.all (rdgB g.cells.length days.length) = true then (if knownB g days = true then 0 else 8) else 2) else faultN g days
/-- Learn's boxes. -/
structure LnA (w : World) (gcs : Array Value) (dv : Value) (W : World) : Prop where
  below : Below w.heap.size w W
  gb : Whole W w.heap.size 38 gcs
  db : Whole W (w.heap.size + 1) 40 #[dv]
  rb : Whole W (w.heap.size + 1 + 1) 36 #[vi 0, vi 0]
theorem LnA.next {w W W' : World} {gcs : Array Value} {dv : Value} (h : LnA w gcs dv W) (hb : newer W W') : LnA w gcs dv W' := ⟨below_next h.below hb, h.gb.below hb h.gb.lt, h.db.below hb h.db.lt, h.rb.below hb h.rb.lt⟩
theorem LnA.made (w : World) (gcs : Array Value) (dv : Value) : LnA w gcs dv (((w.alloc (.cells gcs 38)).alloc (.cells #[dv] 40)).alloc (.cells #[vi 0, vi 0] 36)) := by
  refine ⟨(((Below.refl _ _).alloc (Nat.le_refl _) _).alloc (by simp) _).alloc (by simp; omega) _, ?_, ?_, ?_⟩
  · (simp only [Whole, heap_if, World.size_alloc]; (repeat rw [if_neg (by omega)]); rfl)
  · (simp only [Whole, heap_if, World.size_alloc]; (repeat rw [if_neg (by omega)]); rfl)
  · (simp only [Whole, heap_if, World.size_alloc]; (repeat rw [if_neg (by omega)]); rfl)

set_option maxRecDepth 100000 in
set_option maxHeartbeats 2000000 in
theorem learn_no (g : Gnd) (A : Option Addr) (ap : Nat) (days : List Day) (D : Option Addr) (dp : Nat) (l : List Rdg) (R : Option Addr) (rp : Nat) (w : World) (hn : g.cells.length ≤ 1000) (hm : days.length ≤ 1000) (hl : l.length ≤ 1000)
    (hc : Row cellL 7 w w.heap.size A g.cells) (hd : Row dayL 3 w w.heap.size D days) (hr : Row rdgL 4 w w.heap.size R l) (er : Int) (he : er = lnErr g days l) (h0 : er ≠ 0) :
    Calls Try.prog 42 #[gndV A ap g, .slice D days.length dp, .slice R l.length rp] w fun e w' => e = .returned (.tuple #[.agg #[vi 0, vi 0], .int .i64 er]) ∧ newer w w' := by
  have HC := Lib.hid hc
  have HD := Lib.hid hd
  have HR := Lib.hid hr
  have HM := Lib.hid (LnA.made w (gndC A ap g) (.slice D days.length dp))
  have HK := Lib.hid (check_any g ap A days dp D (((w.alloc (.cells (gndC A ap g) 38)).alloc (.cells #[.slice D days.length dp] 40)).alloc (.cells #[vi 0, vi 0] 36)) hn hm (row_alloc (row_alloc (row_alloc hc _) _) _) (row_alloc (row_alloc (row_alloc hd _) _) _))
  clear hc hd hr
  by_cases hf : faultN g days = 0
  · have he1 := he
    unfold lnErr at he1
    rw [if_pos hf] at he1
    have HF := Lib.hid hf
    rw [hf] at HK
    clear hf
    by_cases hlen : 30 < l.length
    · rw [if_pos hlen] at he1
      subst he1
      have hli : (30 : Int) < l.length := by omega
      clear h0 he
      go_enter Try.func42, Try.ntmps42
      go_wp2_with fail
      refine (HK.out).mono ?_
      rintro e w1 ⟨rfl, hb⟩
      have HA := Lib.hid (HM.out.next hb)
      clear hb HM HK
      have x0 := HA.out.rb.at 0 (v := vi 0) rfl
      have x1 := HA.out.rb.at 1 (v := vi 0) rfl
      have y0 := HA.out.rb.free 0
      have y1 := HA.out.rb.free 1
      go_wp2_with fail
      have k := (HA.out.rb.set 0 (vi 0)).set 1 (vi 0)
      have k0 := k.at 0 (v := vi 0) rfl
      have k1 := k.at 1 (v := vi 0) rfl
      exact bodyPost_ret (v := .tuple #[.agg #[vi 0, vi 0], .int .i64 3]) (by simp [results, Try.results42, go_sem, k0, k1]) rfl ⟨rfl, (HA.out.below.setCell (p := ⟨w.heap.size + 1 + 1, 0, none⟩) (by dsimp only; omega) _).setCell (p := ⟨w.heap.size + 1 + 1, 1, none⟩) (by dsimp only; omega) _⟩
    · rw [if_neg hlen] at he1
      have hli : ¬ ((30 : Int) < l.length) := by omega
      cases hall : l.all (rdgB g.cells.length days.length) with
      | false =>
        rw [hall, if_neg (by decide)] at he1
        subst he1
        have HALL := Lib.hid hall
        clear h0 he hall
        go_enter Try.func42, Try.ntmps42
        go_wp2_with fail
        refine (HK.out).mono ?_
        rintro e w1 ⟨rfl, hb⟩
        have HA := Lib.hid (HM.out.next hb)
        clear hb HM HK
        go_wp2_with fail
        have HAL := Lib.hid (allRdg_any l (rdgB g.cells.length days.length) rp R w.heap.size (w.heap.size + 1) w1 hl ((HR.out.below HA.out.below).more HA.out.below.size) (fun c W hW => checkReading_any c w.heap.size (w.heap.size + 1) A g.cells.length ap D days.length dp W hn hm ((HA.out.next hW).gb.at 0 rfl) ((HA.out.next hW).db.at 0 rfl)))
        rw [HALL.out] at HAL
        refine (HAL.out).mono ?_
        rintro e w2 ⟨rfl, hb⟩
        have HA2 := Lib.hid (HA.out.next hb)
        clear hb HA HAL
        have HA := HA2
        clear HA2
        have x0 := HA.out.rb.at 0 (v := vi 0) rfl
        have x1 := HA.out.rb.at 1 (v := vi 0) rfl
        have y0 := HA.out.rb.free 0
        have y1 := HA.out.rb.free 1
        go_wp2_with fail
        have k := (HA.out.rb.set 0 (vi 0)).set 1 (vi 0)
        have k0 := k.at 0 (v := vi 0) rfl
        have k1 := k.at 1 (v := vi 0) rfl
        exact bodyPost_ret (v := .tuple #[.agg #[vi 0, vi 0], .int .i64 2]) (by simp [results, Try.results42, go_sem, k0, k1]) rfl ⟨rfl, (HA.out.below.setCell (p := ⟨w.heap.size + 1 + 1, 0, none⟩) (by dsimp only; omega) _).setCell (p := ⟨w.heap.size + 1 + 1, 1, none⟩) (by dsimp only; omega) _⟩
      | true =>
        rw [hall, if_pos rfl] at he1
        cases hkn : knownB g days with
        | true =>
          rw [hkn, if_pos rfl] at he1
          exact absurd he1 h0
        | false =>
          rw [hkn, if_neg (by decide)] at he1
          subst he1
          have HALL := Lib.hid hall
          have HKN := Lib.hid hkn
          clear h0 he hall hkn
          go_enter Try.func42, Try.ntmps42
          go_wp2_with fail
          refine (HK.out).mono ?_
          rintro e w1 ⟨rfl, hb⟩
          have HA := Lib.hid (HM.out.next hb)
          clear hb HM HK
          go_wp2_with fail
          have HAL := Lib.hid (allRdg_any l (rdgB g.cells.length days.length) rp R w.heap.size (w.heap.size + 1) w1 hl ((HR.out.below HA.out.below).more HA.out.below.size) (fun c W hW => checkReading_any c w.heap.size (w.heap.size + 1) A g.cells.length ap D days.length dp W hn hm ((HA.out.next hW).gb.at 0 rfl) ((HA.out.next hW).db.at 0 rfl)))
          rw [HALL.out] at HAL
          refine (HAL.out).mono ?_
          rintro e w2 ⟨rfl, hb⟩
          have HA2 := Lib.hid (HA.out.next hb)
          clear hb HA HAL
          have g0 := (HA2.out.gb).at 0 (v := .slice A g.cells.length ap) rfl
          have g1 := (HA2.out.gb).at 1 (v := vi g.slo) rfl
          have g2 := (HA2.out.gb).at 2 (v := vi g.shi) rfl
          have g3 := (HA2.out.gb).at 3 (v := vi g.klo) rfl
          have g4 := (HA2.out.gb).at 4 (v := vi g.khi) rfl
          have g5 := (HA2.out.gb).at 5 (v := vi g.melt) rfl
          have d0 := HA2.out.db.at 0 (v := .slice D days.length dp) rfl
          go_wp2_with fail
          have HKW := Lib.hid (known_any g A ap days D dp w2 hn hm ((HC.out.below HA2.out.below).more HA2.out.below.size) ((HD.out.below HA2.out.below).more HA2.out.below.size))
          rw [HKN.out] at HKW
          refine (HKW.out).mono ?_
          rintro e w3 ⟨rfl, hb⟩
          have HA := Lib.hid (HA2.out.next hb)
          clear hb HA2 HKW g0 g1 g2 g3 g4 g5 d0
          have x0 := HA.out.rb.at 0 (v := vi 0) rfl
          have x1 := HA.out.rb.at 1 (v := vi 0) rfl
          have y0 := HA.out.rb.free 0
          have y1 := HA.out.rb.free 1
          go_wp2_with fail
          have k := (HA.out.rb.set 0 (vi 0)).set 1 (vi 0)
          have k0 := k.at 0 (v := vi 0) rfl
          have k1 := k.at 1 (v := vi 0) rfl
          exact bodyPost_ret (v := .tuple #[.agg #[vi 0, vi 0], .int .i64 8]) (by simp [results, Try.results42, go_sem, k0, k1]) rfl ⟨rfl, (HA.out.below.setCell (p := ⟨w.heap.size + 1 + 1, 0, none⟩) (by dsimp only; omega) _).setCell (p := ⟨w.heap.size + 1 + 1, 1, none⟩) (by dsimp only; omega) _⟩
  · have he1 := he
    unfold lnErr at he1
    rw [if_neg hf] at he1
    have hfb : (er == 0) = false := by simpa using h0
    have hfn : (er != 0) = true := by simpa using h0
    rw [← he1] at HK
    clear h0 he hf he1
    go_enter Try.func42, Try.ntmps42
    go_wp2_with fail
    refine (HK.out).mono ?_
    rintro e w1 ⟨rfl, hb⟩
    have HA := Lib.hid (HM.out.next hb)
    clear hb HM HK
    have x0 := HA.out.rb.at 0 (v := vi 0) rfl
    have x1 := HA.out.rb.at 1 (v := vi 0) rfl
    have y0 := HA.out.rb.free 0
    have y1 := HA.out.rb.free 1
    go_wp2_with fail
    have k := (HA.out.rb.set 0 (vi 0)).set 1 (vi 0)
    have k0 := k.at 0 (v := vi 0) rfl
    have k1 := k.at 1 (v := vi 0) rfl
    exact bodyPost_ret (v := .tuple #[.agg #[vi 0, vi 0], .int .i64 er]) (by simp [results, Try.results42, go_sem, k0, k1]) rfl ⟨rfl, (HA.out.below.setCell (p := ⟨w.heap.size + 1 + 1, 0, none⟩) (by dsimp only; omega) _).setCell (p := ⟨w.heap.size + 1 + 1, 1, none⟩) (by dsimp only; omega) _⟩

/-- The bound method, its way begun. -/
def vRunM (B : Nat) (g : Gnd) (A : Option Addr) (ap : Nat) (days : List Day) (D : Option Addr) (dp : Nat) (v : Value) (W : World) : Prop :=
  ∃ b L lp R rp, v = .func (.func 75) #[.pointer (some ⟨b, 0, none⟩)] #[] ∧ B ≤ b ∧ OnWay W b (mkWay g A ap days D dp false L lp R rp) (stEnd false g).f (stEnd false g).snow 0
theorem vRunM_st {B : Nat} {g : Gnd} {A : Option Addr} {ap : Nat} {days : List Day} {D : Option Addr} {dp : Nat} : ∀ v W W', vRunM B g A ap days D dp v W → newer W W' → vRunM B g A ap days D dp v W' := fun _ _ _ ⟨b, L, lp, R, rp, h1, h2, h3⟩ hb => ⟨b, L, lp, R, rp, h1, h2, h3.below hb h3.blk.lt⟩
/-- What a search has found. -/
def vLow (p : Int → Bool) (a b : Int) (v : Value) (_ : World) : Prop := ∃ n, v = vi n ∧ Halved p a b n (n - 1)
theorem vLow_st {p : Int → Bool} {a b : Int} : ∀ v W W', vLow p a b v W → newer W W' → vLow p a b v W' := fun _ _ _ h _ => h
def vLow1 (p : Int → Bool) (a b : Int) (v : Value) (_ : World) : Prop := ∃ n, v = vi (n - 1) ∧ Halved p a b n (n - 1)
theorem vLow1_st {p : Int → Bool} {a b : Int} : ∀ v W W', vLow1 p a b v W → newer W W' → vLow1 p a b v W' := fun _ _ _ h _ => h
def vLow2 (p q : Int → Bool) (a b : Int) (v : Value) (_ : World) : Prop := ∃ n m, v = .agg #[vi n, vi (m - 1)] ∧ Halved p a b n (n - 1) ∧ Halved q a b m (m - 1)
theorem vLow2_st {p q : Int → Bool} {a b : Int} : ∀ v W W', vLow2 p q a b v W → newer W W' → vLow2 p q a b v W' := fun _ _ _ h _ => h
/-- What Learn leaves, where it is asked rightly. -/
def learnOut (g : Gnd) (days : List Day) (l : List Rdg) (v : Value) : Prop :=
  ∃ n m : Int, Halved (allB g days (readM l) geLo) g.klo g.khi n (n - 1) ∧ Halved (fun x => !allB g days (readM l) leHi x) g.klo g.khi m (m - 1) ∧ v = (if m - 1 < n then .tuple #[.agg #[vi 0, vi 0], vi 7] else .tuple #[.agg #[vi n, vi (m - 1)], vi 0])
theorem lnErr_zero {g : Gnd} {days : List Day} {l : List Rdg} (h : lnErr g days l = 0) : faultN g days = 0 ∧ l.length ≤ 30 ∧ l.all (rdgB g.cells.length days.length) = true ∧ knownB g days = true := by
  unfold lnErr at h
  by_cases hf : faultN g days = 0
  · rw [if_pos hf] at h
    by_cases h1 : 30 < l.length
    · rw [if_pos h1] at h; omega
    · rw [if_neg h1] at h
      by_cases h2 : l.all (rdgB g.cells.length days.length) = true
      · rw [if_pos h2] at h
        by_cases h3 : knownB g days = true
        · exact ⟨hf, by omega, h2, h3⟩
        · rw [if_neg h3] at h; omega
      · rw [if_neg h2] at h; omega
  · rw [if_neg hf] at h
    exact absurd h hf

set_option maxRecDepth 100000 in
set_option maxHeartbeats 4000000 in
theorem learn_yes (g : Gnd) (A : Option Addr) (ap : Nat) (days : List Day) (D : Option Addr) (dp : Nat) (l : List Rdg) (R : Option Addr) (rp : Nat) (w : World)
    (hc : Row cellL 7 w w.heap.size A g.cells) (hd : Row dayL 3 w w.heap.size D days) (hr : Row rdgL 4 w w.heap.size R l) (h0 : lnErr g days l = 0) :
    Calls Try.prog 42 #[gndV A ap g, .slice D days.length dp, .slice R l.length rp] w fun e w' => (∃ v, e = .returned v ∧ learnOut g days l v) ∧ newer w w' := by
  obtain ⟨hf, hlen, hall, hkn⟩ := lnErr_zero h0
  have hn8 := (fault_cells hf).2
  have hn1 := (fault_cells hf).1
  have hm30 := (fault_zero hf).2.1
  have hg1 := (fault_zero hf).1
  simp only [gndB, Bool.and_eq_true, inB, upB, decide_eq_true_eq] at hg1
  obtain ⟨⟨⟨⟨⟨_, _⟩, _⟩, hks⟩, _⟩, _⟩ := hg1
  have hk0 : 0 ≤ g.klo := hks.1.1
  have hk1 : g.klo ≤ g.khi := hks.1.2
  have hk2 : g.khi ≤ 1000 := hks.2
  have HC := Lib.hid hc
  have HD := Lib.hid hd
  have HR := Lib.hid hr
  have HM := Lib.hid (LnA.made w (gndC A ap g) (.slice D days.length dp))
  have HK := Lib.hid (check_any g ap A days dp D (((w.alloc (.cells (gndC A ap g) 38)).alloc (.cells #[.slice D days.length dp] 40)).alloc (.cells #[vi 0, vi 0] 36)) (by omega) (by omega) (row_alloc (row_alloc (row_alloc hc _) _) _) (row_alloc (row_alloc (row_alloc hd _) _) _))
  rw [hf] at HK
  have HF := Lib.hid hf
  have HALL := Lib.hid hall
  have HKN := Lib.hid hkn
  have HSP := Lib.hid (readM_spots (n := g.cells.length) (m := days.length) l (fun x hx => List.all_eq_true.1 hall x hx))
  have hli : ¬ ((30 : Int) < l.length) := by omega
  clear hc hd hr hf hall hkn hks h0
  go_enter Try.func42, Try.ntmps42
  go_wp2_with fail
  refine (HK.out).mono ?_
  rintro e w1 ⟨rfl, hb⟩
  have HA := Lib.hid (HM.out.next hb)
  clear hb HM HK
  go_wp2_with fail
  have HAL := Lib.hid (allRdg_any l (rdgB g.cells.length days.length) rp R w.heap.size (w.heap.size + 1) w1 (by omega) ((HR.out.below HA.out.below).more HA.out.below.size) (fun c W hW => checkReading_any c w.heap.size (w.heap.size + 1) A g.cells.length ap D days.length dp W (by omega) (by omega) ((HA.out.next hW).gb.at 0 rfl) ((HA.out.next hW).db.at 0 rfl)))
  rw [HALL.out] at HAL
  refine (HAL.out).mono ?_
  rintro e w2 ⟨rfl, hb⟩
  have HA2 := Lib.hid (HA.out.next hb)
  clear hb HA HAL
  have g0 := (HA2.out.gb).at 0 (v := .slice A g.cells.length ap) rfl
  have g1 := (HA2.out.gb).at 1 (v := vi g.slo) rfl
  have g2 := (HA2.out.gb).at 2 (v := vi g.shi) rfl
  have g3 := (HA2.out.gb).at 3 (v := vi g.klo) rfl
  have g4 := (HA2.out.gb).at 4 (v := vi g.khi) rfl
  have g5 := (HA2.out.gb).at 5 (v := vi g.melt) rfl
  have d0 := HA2.out.db.at 0 (v := .slice D days.length dp) rfl
  go_wp2_with fail
  have HKW := Lib.hid (known_any g A ap days D dp w2 (by omega) (by omega) ((HC.out.below HA2.out.below).more HA2.out.below.size) ((HD.out.below HA2.out.below).more HA2.out.below.size))
  rw [HKN.out] at HKW
  refine (HKW.out).mono ?_
  rintro e wv ⟨rfl, hb⟩
  have HA := Lib.hid (HA2.out.next hb)
  clear hb HA2 HKW g0 g1 g2 g3 g4 g5 d0
  have g0 := (HA.out.gb).at 0 (v := .slice A g.cells.length ap) rfl
  have g1 := (HA.out.gb).at 1 (v := vi g.slo) rfl
  have g2 := (HA.out.gb).at 2 (v := vi g.shi) rfl
  have g3 := (HA.out.gb).at 3 (v := vi g.klo) rfl
  have g4 := (HA.out.gb).at 4 (v := vi g.khi) rfl
  have g5 := (HA.out.gb).at 5 (v := vi g.melt) rfl
  have d0 := HA.out.db.at 0 (v := .slice D days.length dp) rfl
  go_wp2_with fail
  refine wp_words (by kernel_rfl) (region_told 9 (by kernel_rfl) (by kernel_rfl) (fun W => Below wv.heap.size wv W) newer (pickD [vIs (gndV A ap g), vIs (.slice D days.length dp), vIs (choiceV false), vIs (gndV A ap g), vIs (.slice D days.length dp), vTruth wv.heap.size false g days, vWay wv.heap.size g A ap days D dp false, vRunM wv.heap.size g A ap days D dp, vNew wv.heap.size 137 #[.nilFunc]]) (fun h k => newer_trans h k) (pickD_stable _ ⟨vIs_st, vIs_st, vIs_st, vIs_st, vIs_st, vTruth_st, vWay_st, vRunM_st, vNew_st, trivial⟩) (Below.refl _ wv).drew (Below.refl _ _) ?_ ?_)
  · refine ⟨?_, ?_, ?_, ?_, ?_, ?_, ?_, ?_, ?_, trivial⟩
    · intro a W hG hR hO hp
      have h3 := hO.slot 3 (by kernel_rfl)
      have c0 := keep_cell g0 hG
      have c1 := keep_cell g1 hG
      have c2 := keep_cell g2 hG
      have c3 := keep_cell g3 hG
      have c4 := keep_cell g4 hG
      have c5 := keep_cell g5 hG
      refine wp_yields (v := gndV A ap g) ?_ ⟨_, rfl, rfl, Below.refl _ _, hG⟩
      simp [slotOf] at h3
      simp [execOp, go_sem, h3, c0, c1, c2, c3, c4, c5]
    · intro a W hG hR hO hp
      have h4 := hO.slot 4 (by kernel_rfl)
      have c0 := keep_cell d0 hG
      refine wp_yields (v := .slice D days.length dp) ?_ ⟨_, rfl, rfl, Below.refl _ _, hG⟩
      simp [slotOf] at h4
      simp [execOp, go_sem, h4, c0]
    · intro a W hG hR hO hp
      refine wp_enters (f := 53) (args := #[]) ?_ ((least_any _).mono ?_)
      · skip
        simp [go_sem]
      · rintro e w' ⟨rfl, hb⟩
        exact ⟨_, rfl, _, rfl, rfl, hb, below_next hG hb⟩
    · intro a W hG hR hO hp
      have h3 := hO.slot 3 (by kernel_rfl)
      have c0 := keep_cell g0 hG
      have c1 := keep_cell g1 hG
      have c2 := keep_cell g2 hG
      have c3 := keep_cell g3 hG
      have c4 := keep_cell g4 hG
      have c5 := keep_cell g5 hG
      refine wp_yields (v := gndV A ap g) ?_ ⟨_, rfl, rfl, Below.refl _ _, hG⟩
      simp [slotOf] at h3
      simp [execOp, go_sem, h3, c0, c1, c2, c3, c4, c5]
    · intro a W hG hR hO hp
      have h4 := hO.slot 4 (by kernel_rfl)
      have c0 := keep_cell d0 hG
      refine wp_yields (v := .slice D days.length dp) ?_ ⟨_, rfl, rfl, Below.refl _ _, hG⟩
      simp [slotOf] at h4
      simp [execOp, go_sem, h4, c0]
    · intro a W hG hR hO hp
      have h41 : slotOf a 41 = choiceV false := hp.1
      have h42 : slotOf a 42 = gndV A ap g := hp.2.1
      have h43 : slotOf a 43 = .slice D days.length dp := hp.2.2.1
      refine wp_enters (f := 54) (args := #[choiceV false, gndV A ap g, .slice D days.length dp]) ?_ ((truth_end false g A ap days D dp W (by omega) (by omega) ((HC.out.below (below_next HA.out.below hG)).more (below_next HA.out.below hG).size) ((HD.out.below (below_next HA.out.below hG)).more (below_next HA.out.below hG).size)).mono ?_)
      · simp [slotOf] at h41 h42 h43
        simp [go_sem, h41, h42, h43]
      · rintro e w' ⟨L, lp, R', rp', rfl, h2, h3, hb, h4, h5⟩
        exact ⟨_, rfl, _, rfl, ⟨L, lp, R', rp', rfl, h2, h3, fun a e => Nat.le_trans hG.size (h4 a e), fun a e => Nat.le_trans hG.size (h5 a e)⟩, hb, below_next hG hb⟩
    · intro a W hG hR hO hp
      have h39 : slotOf a 39 = gndV A ap g := hp.1
      have h40 : slotOf a 40 = .slice D days.length dp := hp.2.1
      have h44 := hp.2.2.1
      obtain ⟨L, lp, R', rp', h44, h2, h3, h4, h5⟩ := h44
      refine wp_enters (f := 52) (args := #[gndV A ap g, .slice D days.length dp, truthV (endOf false g.slo g.shi) (endOf false g.klo g.khi) L g.cells.length lp R' days.length rp']) ?_ ((begin_end false g A ap days D dp L lp R' rp' W (by omega) ((HC.out.below (below_next HA.out.below hG)).more (below_next HA.out.below hG).size) ((HD.out.below (below_next HA.out.below hG)).more (below_next HA.out.below hG).size) h2 h3).mono ?_)
      · simp [slotOf] at h39 h40 h44
        simp [go_sem, h39, h40, h44]
      · rintro e w' ⟨b, rfl, hb1, hb2, hb⟩
        exact ⟨_, rfl, _, rfl, ⟨b, L, lp, R', rp', rfl, Nat.le_trans hG.size hb1, hb2, h4, h5⟩, hb, below_next hG hb⟩
    · intro a W hG hR hO hp
      have h45 := hp.1
      obtain ⟨b, L, lp, R', rp', h45, h2, h3, _, _⟩ := h45
      refine wp_yields (v := .func (.func 75) #[.pointer (some ⟨b, 0, none⟩)] #[]) ?_ ⟨_, rfl, ⟨b, L, lp, R', rp', rfl, h2, h3⟩, Below.refl _ _, hG⟩
      simp [slotOf] at h45
      simp [execOp, go_sem, h45]
    · intro a W hG hR hO hp
      refine wp_makes (v := .pointer (some ⟨W.heap.size, 0, none⟩)) (W' := W.alloc (.cells #[.nilFunc] 137)) ?_ ⟨_, rfl, ⟨_, rfl, hG.size, Whole.made _ _ _⟩, (Below.refl _ _).alloc (Nat.le_refl _) _, hG.alloc hG.size _⟩
      skip
      simp [execOp, go_sem]
  · intro W hG hR
    rintro _ rfl _ rfl _ rfl _ rfl _ rfl _ ⟨_, _, _, _, rfl, -, -, -, -⟩ _ ⟨_, _, _, _, _, rfl, -, -, -, -⟩ _ ⟨b, L, lp, R', rp', rfl, hbw, hway⟩ _ ⟨rb, rfl, hrb, hwr⟩
    change wpList _ _ _ _ _ _
    simp only [Act.put, List.setIfInBounds_toArray, List.set_cons_zero, List.set_cons_succ, List.drop_succ_cons, List.drop_zero]
    have hvn : ∀ n, Value.nilFunc ≠ vi n := fun n e => by cases e
    have HX := Lib.hid (And.intro (HA.out.next hG) (And.intro hway (And.intro hwr (And.intro hG (And.intro hrb hbw)))))
    have x0 := hwr.at 0 rfl
    have f0 := hwr.free 0
    clear hG hR hway hwr hrb hbw g0 g1 g2 g3 g4 g5 d0
    have HY : Hid (LnA w (gndC A ap g) (.slice D days.length dp) (W.setCell ⟨rb, 0, none⟩ (.func (.func 75) #[.pointer (some ⟨b, 0, none⟩)] #[])) ∧ OnWay (W.setCell ⟨rb, 0, none⟩ (.func (.func 75) #[.pointer (some ⟨b, 0, none⟩)] #[])) b (mkWay g A ap days D dp false L lp R' rp') (stEnd false g).f (stEnd false g).snow 0 ∧ Whole (W.setCell ⟨rb, 0, none⟩ (.func (.func 75) #[.pointer (some ⟨b, 0, none⟩)] #[])) rb 137 #[.func (.func 75) #[.pointer (some ⟨b, 0, none⟩)] #[]]) :=
      Lib.hid ⟨HA.out.next (HX.out.2.2.2.1.setCell (p := ⟨rb, 0, none⟩) HX.out.2.2.2.2.1 _), HX.out.2.1.var' hvn (by decide) HX.out.2.2.1 _, HX.out.2.2.1.set 0 _⟩
    go_wp2_with fail
    obtain ⟨w4, hw4⟩ : ∃ w4, w4 = W.setCell ⟨rb, 0, none⟩ (.func (.func 75) #[.pointer (some ⟨b, 0, none⟩)] #[]) := ⟨_, rfl⟩
    rw [← hw4] at HY ⊢
    clear hw4 HX x0 f0 HA
    refine (read_any l R rp w4 (by omega) ((HR.out.below HY.out.1.below).more HY.out.1.below.size)).mono ?_
    rintro e w5 ⟨rfl, hmap, hb⟩
    obtain ⟨mp, hmp⟩ : ∃ mp, mp = w4.heap.size := ⟨_, rfl⟩
    rw [← hmp] at hmap ⊢
    have HZ := Lib.hid (And.intro (HY.out.1.next hb) (And.intro (HY.out.2.1.below hb HY.out.2.1.blk.lt) (And.intro (HY.out.2.2.below hb HY.out.2.2.lt) hmap)))
    clear hb hmap hmp HY
    go_upto_region 14 with fail
    have HQ : Hid (LnA w (gndC A ap g) (.slice D days.length dp) ((w5.alloc (.cells #[.map (some mp)] 138)).alloc (.cells #[.func (.func 77) #[] #[.pointer (some ⟨rb, 0, none⟩), .pointer (some ⟨w5.heap.size, 0, none⟩)]] 143)) ∧ LnF (mkWay g A ap days D dp false L lp R' rp') b rb w5.heap.size mp (w5.heap.size + 1) (stEnd false g).f (stEnd false g).snow 0 (readM l) ((w5.alloc (.cells #[.map (some mp)] 138)).alloc (.cells #[.func (.func 77) #[] #[.pointer (some ⟨rb, 0, none⟩), .pointer (some ⟨w5.heap.size, 0, none⟩)]] 143))) := by
      have hnn : newer w5 ((w5.alloc (.cells #[.map (some mp)] 138)).alloc (.cells #[.func (.func 77) #[] #[.pointer (some ⟨rb, 0, none⟩), .pointer (some ⟨w5.heap.size, 0, none⟩)]] 143)) := newer_trans (newer_allocH _ _) (newer_allocH _ _)
      refine Lib.hid ⟨HZ.out.1.next hnn, ⟨⟨HZ.out.2.1.below hnn HZ.out.2.1.blk.lt, HZ.out.2.2.1.below hnn HZ.out.2.2.1.lt, (Whole.made _ _ _).alloc _, HZ.out.2.2.2.next hnn⟩, ?_⟩⟩
      have h := Whole.made (w5.alloc (.cells #[.map (some mp)] 138)) 143 #[.func (.func 77) #[] #[.pointer (some ⟨rb, 0, none⟩), .pointer (some ⟨w5.heap.size, 0, none⟩)]]
      simpa using h
    obtain ⟨wv, hwv⟩ : ∃ wv, wv = (w5.alloc (.cells #[.map (some mp)] 138)).alloc (.cells #[.func (.func 77) #[] #[.pointer (some ⟨rb, 0, none⟩), .pointer (some ⟨w5.heap.size, 0, none⟩)]] 143) := ⟨_, rfl⟩
    obtain ⟨m5, hm5⟩ : ∃ m5, m5 = w5.heap.size := ⟨_, rfl⟩
    rw [← hwv, ← hm5] at HQ ⊢
    clear hwv hm5 HZ w5
    have g3 := HQ.out.1.gb.at 3 (v := vi g.klo) rfl
    have g4 := HQ.out.1.gb.at 4 (v := vi g.khi) rfl
    have HOKS : Hid (∀ n, g.klo ≤ n → n ≤ g.khi → WayOk (mkWay g A ap days D dp false L lp R' rp').l (mkWay g A ap days D dp false L lp R' rp').melt n (mkWay g A ap days D dp false L lp R' rp').days (mkWay g A ap days D dp false L lp R' rp').rain ⟨iAt (mkWay g A ap days D dp false L lp R' rp').levels, (mkWay g A ap days D dp false L lp R' rp').tsnow, 0⟩) := Lib.hid fun n h1 h2 => wayOk_soak HF.out h1 h2
    have hl8 : (mkWay g A ap days D dp false L lp R' rp').levels.length ≤ 8 := by simp [mkWay]; exact hn8
    have HL8 := Lib.hid hl8
    have HSO : Hid (spotsOk (mkWay g A ap days D dp false L lp R' rp') (readM l)) := HSP
    clear hl8
    refine wp_words (by kernel_rfl) (region_told 19 (by kernel_rfl) (by kernel_rfl) (fun W => Below wv.heap.size wv W) newer (pickD [vIs (.pointer (some ⟨w.heap.size, 3, none⟩)), vIs (.pointer (some ⟨w.heap.size, 3, none⟩)), vIs (vi g.klo), vIs (.pointer (some ⟨w.heap.size, 3, none⟩)), vIs (.pointer (some ⟨w.heap.size, 4, none⟩)), vIs (vi g.khi), vIs (.func (.func 78) #[] #[.pointer (some ⟨m5 + 1, 0, none⟩)]), vLow (allB g days (readM l) geLo) g.klo g.khi, vIs (.pointer (some ⟨w.heap.size, 3, none⟩)), vIs (.pointer (some ⟨w.heap.size, 3, none⟩)), vIs (vi g.klo), vIs (.pointer (some ⟨w.heap.size, 3, none⟩)), vIs (.pointer (some ⟨w.heap.size, 4, none⟩)), vIs (vi g.khi), vIs (.func (.func 80) #[] #[.pointer (some ⟨m5 + 1, 0, none⟩)]), vLow (fun x => !allB g days (readM l) leHi x) g.klo g.khi, vLow1 (fun x => !allB g days (readM l) leHi x) g.klo g.khi, vLow2 (allB g days (readM l) geLo) (fun x => !allB g days (readM l) leHi x) g.klo g.khi, vNew wv.heap.size 36 #[vi 0, vi 0]]) (fun h k => newer_trans h k) (pickD_stable _ ⟨vIs_st, vIs_st, vIs_st, vIs_st, vIs_st, vIs_st, vIs_st, vLow_st, vIs_st, vIs_st, vIs_st, vIs_st, vIs_st, vIs_st, vIs_st, vLow_st, vLow1_st, vLow2_st, vNew_st, trivial⟩) (Below.refl _ wv).drew (Below.refl _ _) ?_ ?_)
    · refine ⟨?_, ?_, ?_, ?_, ?_, ?_, ?_, ?_, ?_, ?_, ?_, ?_, ?_, ?_, ?_, ?_, ?_, ?_, ?_, trivial⟩
      · intro a W hG hR hO hp
        have h3 := hO.slot 3 (by kernel_rfl)
        refine wp_yields (v := .pointer (some ⟨w.heap.size, 3, none⟩)) ?_ ⟨_, rfl, rfl, Below.refl _ _, hG⟩
        simp [slotOf] at h3
        simp [execOp, go_sem, h3]
      · intro a W hG hR hO hp
        have h50 : slotOf a 50 = .pointer (some ⟨w.heap.size, 3, none⟩) := hp.1
        refine wp_yields (v := .pointer (some ⟨w.heap.size, 3, none⟩)) ?_ ⟨_, rfl, rfl, Below.refl _ _, hG⟩
        simp [slotOf] at h50
        simp [execOp, go_sem, h50]
      · intro a W hG hR hO hp
        have h51 : slotOf a 51 = .pointer (some ⟨w.heap.size, 3, none⟩) := hp.1
        have c0 := keep_cell g3 hG
        refine wp_yields (v := vi g.klo) ?_ ⟨_, rfl, rfl, Below.refl _ _, hG⟩
        simp [slotOf] at h51
        simp [execOp, go_sem, h51, c0]
      · intro a W hG hR hO hp
        have h3 := hO.slot 3 (by kernel_rfl)
        refine wp_yields (v := .pointer (some ⟨w.heap.size, 3, none⟩)) ?_ ⟨_, rfl, rfl, Below.refl _ _, hG⟩
        simp [slotOf] at h3
        simp [execOp, go_sem, h3]
      · intro a W hG hR hO hp
        have h53 : slotOf a 53 = .pointer (some ⟨w.heap.size, 3, none⟩) := hp.1
        refine wp_yields (v := .pointer (some ⟨w.heap.size, 4, none⟩)) ?_ ⟨_, rfl, rfl, Below.refl _ _, hG⟩
        simp [slotOf] at h53
        simp [execOp, go_sem, h53]
      · intro a W hG hR hO hp
        have h54 : slotOf a 54 = .pointer (some ⟨w.heap.size, 4, none⟩) := hp.1
        have c0 := keep_cell g4 hG
        refine wp_yields (v := vi g.khi) ?_ ⟨_, rfl, rfl, Below.refl _ _, hG⟩
        simp [slotOf] at h54
        simp [execOp, go_sem, h54, c0]
      · intro a W hG hR hO hp
        have h12 := hO.slot 12 (by kernel_rfl)
        refine wp_yields (v := .func (.func 78) #[] #[.pointer (some ⟨m5 + 1, 0, none⟩)]) ?_ ⟨_, rfl, rfl, Below.refl _ _, hG⟩
        simp [slotOf] at h12
        simp [execOp, go_sem, h12]
      · intro a W hG hR hO hp
        have h52 : slotOf a 52 = vi g.klo := hp.1
        have h55 : slotOf a 55 = vi g.khi := hp.2.1
        have h56 : slotOf a 56 = .func (.func 78) #[] #[.pointer (some ⟨m5 + 1, 0, none⟩)] := hp.2.2.1
        refine wp_enters (f := 62) (args := #[vi g.klo, vi g.khi, .func (.func 78) #[] #[.pointer (some ⟨m5 + 1, 0, none⟩)]]) ?_ ((lowest78 (allB g days (readM l) geLo) g.klo g.khi (.pointer (some ⟨m5 + 1, 0, none⟩)) (fun X => newer W X) W hk0 (by omega) (by omega) (Below.refl _ _) (fun n X h1 h2 hX => (test78 n X (HQ.out.2.next (newer_trans hG hX)) (HOKS.out n h1 h2) HL8.out hn1 HSO.out).mono fun e w' ⟨he, hb⟩ => ⟨he, newer_trans hX hb⟩)).mono ?_)
        · simp [slotOf] at h52 h55 h56
          simp [go_sem, h52, h55, h56]
        · rintro e w' ⟨n, rfl, hh, hb⟩
          exact ⟨_, rfl, _, rfl, ⟨n, rfl, hh⟩, hb, below_next hG hb⟩
      · intro a W hG hR hO hp
        have h3 := hO.slot 3 (by kernel_rfl)
        refine wp_yields (v := .pointer (some ⟨w.heap.size, 3, none⟩)) ?_ ⟨_, rfl, rfl, Below.refl _ _, hG⟩
        simp [slotOf] at h3
        simp [execOp, go_sem, h3]
      · intro a W hG hR hO hp
        have h58 : slotOf a 58 = .pointer (some ⟨w.heap.size, 3, none⟩) := hp.1
        refine wp_yields (v := .pointer (some ⟨w.heap.size, 3, none⟩)) ?_ ⟨_, rfl, rfl, Below.refl _ _, hG⟩
        simp [slotOf] at h58
        simp [execOp, go_sem, h58]
      · intro a W hG hR hO hp
        have h59 : slotOf a 59 = .pointer (some ⟨w.heap.size, 3, none⟩) := hp.1
        have c0 := keep_cell g3 hG
        refine wp_yields (v := vi g.klo) ?_ ⟨_, rfl, rfl, Below.refl _ _, hG⟩
        simp [slotOf] at h59
        simp [execOp, go_sem, h59, c0]
      · intro a W hG hR hO hp
        have h3 := hO.slot 3 (by kernel_rfl)
        refine wp_yields (v := .pointer (some ⟨w.heap.size, 3, none⟩)) ?_ ⟨_, rfl, rfl, Below.refl _ _, hG⟩
        simp [slotOf] at h3
        simp [execOp, go_sem, h3]
      · intro a W hG hR hO hp
        have h61 : slotOf a 61 = .pointer (some ⟨w.heap.size, 3, none⟩) := hp.1
        refine wp_yields (v := .pointer (some ⟨w.heap.size, 4, none⟩)) ?_ ⟨_, rfl, rfl, Below.refl _ _, hG⟩
        simp [slotOf] at h61
        simp [execOp, go_sem, h61]
      · intro a W hG hR hO hp
        have h62 : slotOf a 62 = .pointer (some ⟨w.heap.size, 4, none⟩) := hp.1
        have c0 := keep_cell g4 hG
        refine wp_yields (v := vi g.khi) ?_ ⟨_, rfl, rfl, Below.refl _ _, hG⟩
        simp [slotOf] at h62
        simp [execOp, go_sem, h62, c0]
      · intro a W hG hR hO hp
        have h12 := hO.slot 12 (by kernel_rfl)
        refine wp_yields (v := .func (.func 80) #[] #[.pointer (some ⟨m5 + 1, 0, none⟩)]) ?_ ⟨_, rfl, rfl, Below.refl _ _, hG⟩
        simp [slotOf] at h12
        simp [execOp, go_sem, h12]
      · intro a W hG hR hO hp
        have h60 : slotOf a 60 = vi g.klo := hp.1
        have h63 : slotOf a 63 = vi g.khi := hp.2.1
        have h64 : slotOf a 64 = .func (.func 80) #[] #[.pointer (some ⟨m5 + 1, 0, none⟩)] := hp.2.2.1
        refine wp_enters (f := 62) (args := #[vi g.klo, vi g.khi, .func (.func 80) #[] #[.pointer (some ⟨m5 + 1, 0, none⟩)]]) ?_ ((lowest80 (fun x => !allB g days (readM l) leHi x) g.klo g.khi (.pointer (some ⟨m5 + 1, 0, none⟩)) (fun X => newer W X) W hk0 (by omega) (by omega) (Below.refl _ _) (fun n X h1 h2 hX => (test80 n X (HQ.out.2.next (newer_trans hG hX)) (HOKS.out n h1 h2) HL8.out hn1 HSO.out).mono fun e w' ⟨he, hb⟩ => ⟨he, newer_trans hX hb⟩)).mono ?_)
        · simp [slotOf] at h60 h63 h64
          simp [go_sem, h60, h63, h64]
        · rintro e w' ⟨n, rfl, hh, hb⟩
          exact ⟨_, rfl, _, rfl, ⟨n, rfl, hh⟩, hb, below_next hG hb⟩
      · intro a W hG hR hO hp
        have h65 := hp.1
        obtain ⟨m, h65, hm⟩ := h65
        have hmw : IntKind.i64.wrap (m - 1) = m - 1 := IntWalk.i64_in _ (by have := hm.le1; have := hm.le3; omega)
        refine wp_yields (v := vi (m - 1)) ?_ ⟨_, rfl, ⟨m, rfl, hm⟩, Below.refl _ _, hG⟩
        simp [slotOf] at h65
        simp [execOp, go_sem, h65, hmw]
      · intro a W hG hR hO hp
        have h57 := hp.1
        have h66 := hp.2.1
        obtain ⟨n, h57, hn⟩ := h57
        obtain ⟨m, h66, hm⟩ := h66
        refine wp_yields (v := .agg #[vi n, vi (m - 1)]) ?_ ⟨_, rfl, ⟨n, m, rfl, hn, hm⟩, Below.refl _ _, hG⟩
        simp [slotOf] at h57 h66
        simp [execOp, go_sem, h57, h66]
      · intro a W hG hR hO hp
        refine wp_makes (v := .pointer (some ⟨W.heap.size, 0, none⟩)) (W' := W.alloc (.cells #[vi 0, vi 0] 36)) ?_ ⟨_, rfl, ⟨_, rfl, hG.size, Whole.made _ _ _⟩, (Below.refl _ _).alloc (Nat.le_refl _) _, hG.alloc hG.size _⟩
        skip
        simp [execOp, go_sem]
    · intro W hG hR
      rintro _ rfl _ rfl _ rfl _ rfl _ rfl _ rfl _ rfl _ ⟨_, rfl, -⟩ _ rfl _ rfl _ rfl _ rfl _ rfl _ rfl _ rfl _ ⟨_, rfl, -⟩ _ ⟨_, rfl, -⟩ _ ⟨n, m, rfl, hn, hm⟩ _ ⟨ob, rfl, hob, hwo⟩
      change wpList _ _ _ _ _ _
      simp only [Act.put, List.setIfInBounds_toArray, List.set_cons_zero, List.set_cons_succ, List.drop_succ_cons, List.drop_zero]
      have hne : w.heap.size + 1 + 1 ≠ ob := by have := HQ.out.1.rb.lt; omega
      have HQ2 := Lib.hid (And.intro (HQ.out.1.next hG) hwo)
      have x0 := hwo.at 0 rfl
      have x1 := hwo.at 1 rfl
      have f0 := hwo.free 0
      have f1 := hwo.free 1
      have HLN := Lib.hid (And.intro hn hm)
      have hb1 := hn.le1
      have hb2 := hm.le1
      have hb3 := hn.le3
      have hb4 := hm.le3
      have HO1 := Lib.hid (((HQ2.out.1.rb).far (p := ⟨ob, 0, none⟩) hne (vi n)).far (p := ⟨ob, 1, none⟩) hne (vi (m - 1)))
      have HBL := Lib.hid ((HQ2.out.1.below.setCell (p := ⟨ob, 0, none⟩) (by have := HQ.out.1.rb.lt; dsimp only; omega) (vi n)).setCell (p := ⟨ob, 1, none⟩) (by have := HQ.out.1.rb.lt; dsimp only; omega) (vi (m - 1)))
      have r0 := HO1.out.at 0 rfl
      have r1 := HO1.out.at 1 rfl
      have q0 := HO1.out.free 0
      have q1 := HO1.out.free 1
      clear hG hR hwo hn hm g3 g4 HQ
      by_cases hlt : m - 1 < n
      · go_wp2_with fail
        have k := (HO1.out.set 0 (vi 0)).set 1 (vi 0)
        have k0 := k.at 0 (v := vi 0) rfl
        have k1 := k.at 1 (v := vi 0) rfl
        exact bodyPost_ret (v := .tuple #[.agg #[vi 0, vi 0], .int .i64 7]) (by simp [results, Try.results42, go_sem, k0, k1]) rfl ⟨⟨_, rfl, n, m, HLN.out.1, HLN.out.2, by rw [if_pos hlt]⟩, (HBL.out.setCell (p := ⟨w.heap.size + 1 + 1, 0, none⟩) (by dsimp only; omega) _).setCell (p := ⟨w.heap.size + 1 + 1, 1, none⟩) (by dsimp only; omega) _⟩
      · go_wp2_with fail
        have k := (HO1.out.set 0 (vi n)).set 1 (vi (m - 1))
        have k0 := k.at 0 (v := vi n) rfl
        have k1 := k.at 1 (v := vi (m - 1)) rfl
        exact bodyPost_ret (v := .tuple #[.agg #[vi n, vi (m - 1)], .int .i64 0]) (by simp [results, Try.results42, go_sem, k0, k1]) rfl ⟨⟨_, rfl, n, m, HLN.out.1, HLN.out.2, by rw [if_neg (by omega)]⟩, (HBL.out.setCell (p := ⟨w.heap.size + 1 + 1, 0, none⟩) (by dsimp only; omega) _).setCell (p := ⟨w.heap.size + 1 + 1, 1, none⟩) (by dsimp only; omega) _⟩
end Go.Proofs.Yteonkhohloabfaa
