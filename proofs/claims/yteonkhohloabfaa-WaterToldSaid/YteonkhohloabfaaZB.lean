/- Learn, LearnFault and Agrees, walked, and their plain laws. -/
import Derived.Test.YteonkhohloabfaaZA
import Derived.Test.YteonkhohloabfaaL3

/- Learn: its errors, and what it finds. -/
namespace Go.Proofs.Yteonkhohloabfaa
open Go.RowKit Go.Shelf

/-- The error of what is asked of Learn. -/
def lnErr (g : Gnd) (days : List Day) (l : List Rdg) : Int :=
  if faultN g days = 0 then (if 30 < l.length then 3 else if l.all (rdgB g.cells.length days.length) = true then (if knownB g days = true then 0 else 8) else 2) else faultN g days
/-- Learn's boxes. -/
structure LnA (w : World) (gcs : Array Value) (dv : Value) (W : World) : Prop where
  below : Below w.heap.size w W
  gb : Whole W w.heap.size 38 gcs
  db : Whole W (w.heap.size + 1) 40 #[dv]
  rb : Whole W (w.heap.size + 1 + 1) 36 #[vi 0, vi 0]
theorem LnA.next {w W W' : World} {gcs : Array Value} {dv : Value} (h : LnA w gcs dv W) (hb : newer W W') : LnA w gcs dv W' := ⟨below_next h.below hb, h.gb.below hb h.gb.lt, h.db.below hb h.db.lt, h.rb.below hb h.rb.lt⟩
theorem LnA.made (w : World) (gcs : Array Value) (dv : Value) : LnA w gcs dv (((w.alloc (.cells gcs 38)).alloc (.cells #[dv] 40)).alloc (.cells #[vi 0, vi 0] 36)) := by
  refine ⟨(((Below.refl _ _).alloc (Nat.le_refl _) _).alloc (by simp) _).alloc (by simp; omega) _, ?_, ?_, ?_⟩
  · (simp only [Whole, heap_if, World.size_alloc]; (repeat rw [if_neg (by omega)]); rfl)
  · (simp only [Whole, heap_if, World.size_alloc]; (repeat rw [if_neg (by omega)]); rfl)
  · (simp only [Whole, heap_if, World.size_alloc]; (repeat rw [if_neg (by omega)]); rfl)

set_option maxRecDepth 100000 in
set_option maxHeartbeats 2000000 in
theorem learn_no (g : Gnd) (A : Option Addr) (ap : Nat) (days : List Day) (D : Option Addr) (dp : Nat) (l : List Rdg) (R : Option Addr) (rp : Nat) (w : World) (hn : g.cells.length ≤ 1000) (hm : days.length ≤ 1000) (hl : l.length ≤ 1000)
    (hc : Row cellL 7 w w.heap.size A g.cells) (hd : Row dayL 3 w w.heap.size D days) (hr : Row rdgL 4 w w.heap.size R l) (er : Int) (he : er = lnErr g days l) (h0 : er ≠ 0) :
    Calls Try.prog 42 #[gndV A ap g, .slice D days.length dp, .slice R l.length rp] w fun e w' => e = .returned (.tuple #[.agg #[vi 0, vi 0], .int .i64 er]) ∧ newer w w' := by
  have HC := Lib.hid hc
  have HD := Lib.hid hd
  have HR := Lib.hid hr
  have HM := Lib.hid (LnA.made w (gndC A ap g) (.slice D days.length dp))
  have HK := Lib.hid (check_any g ap A days dp D (((w.alloc (.cells (gndC A ap g) 38)).alloc (.cells #[.slice D days.length dp] 40)).alloc (.cells #[vi 0, vi 0] 36)) hn hm (row_alloc (row_alloc (row_alloc hc _) _) _) (row_alloc (row_alloc (row_alloc hd _) _) _))
  clear hc hd hr
  by_cases hf : faultN g days = 0
  · have he1 := he
    unfold lnErr at he1
    rw [if_pos hf] at he1
    have HF := Lib.hid hf
    rw [hf] at HK
    clear hf
    by_cases hlen : 30 < l.length
    · rw [if_pos hlen] at he1
      subst he1
      have hli : (30 : Int) < l.length := by omega
      clear h0 he
      go_enter Try.func42, Try.ntmps42
      go_wp2_with fail
      refine (HK.out).mono ?_
      rintro e w1 ⟨rfl, hb⟩
      have HA := Lib.hid (HM.out.next hb)
      clear hb HM HK
      have x0 := HA.out.rb.at 0 (v := vi 0) rfl
      have x1 := HA.out.rb.at 1 (v := vi 0) rfl
      have y0 := HA.out.rb.free 0
      have y1 := HA.out.rb.free 1
      go_wp2_with fail
      have k := (HA.out.rb.set 0 (vi 0)).set 1 (vi 0)
      have k0 := k.at 0 (v := vi 0) rfl
      have k1 := k.at 1 (v := vi 0) rfl
      exact bodyPost_ret (v := .tuple #[.agg #[vi 0, vi 0], .int .i64 3]) (by simp [results, Try.results42, go_sem, k0, k1]) rfl ⟨rfl, (HA.out.below.setCell (p := ⟨w.heap.size + 1 + 1, 0, none⟩) (by dsimp only; omega) _).setCell (p := ⟨w.heap.size + 1 + 1, 1, none⟩) (by dsimp only; omega) _⟩
    · rw [if_neg hlen] at he1
      have hli : ¬ ((30 : Int) < l.length) := by omega
      cases hall : l.all (rdgB g.cells.length days.length) with
      | false =>
        rw [hall, if_neg (by decide)] at he1
        subst he1
        have HALL := Lib.hid hall
        clear h0 he hall
        go_enter Try.func42, Try.ntmps42
        go_wp2_with fail
        refine (HK.out).mono ?_
        rintro e w1 ⟨rfl, hb⟩
        have HA := Lib.hid (HM.out.next hb)
        clear hb HM HK
        go_wp2_with fail
        have HAL := Lib.hid (allRdg_any l (rdgB g.cells.length days.length) rp R w.heap.size (w.heap.size + 1) w1 hl ((HR.out.below HA.out.below).more HA.out.below.size) (fun c W hW => checkReading_any c w.heap.size (w.heap.size + 1) A g.cells.length ap D days.length dp W hn hm ((HA.out.next hW).gb.at 0 rfl) ((HA.out.next hW).db.at 0 rfl)))
        rw [HALL.out] at HAL
        refine (HAL.out).mono ?_
        rintro e w2 ⟨rfl, hb⟩
        have HA2 := Lib.hid (HA.out.next hb)
        clear hb HA HAL
        have HA := HA2
        clear HA2
        have x0 := HA.out.rb.at 0 (v := vi 0) rfl
        have x1 := HA.out.rb.at 1 (v := vi 0) rfl
        have y0 := HA.out.rb.free 0
        have y1 := HA.out.rb.free 1
        go_wp2_with fail
        have k := (HA.out.rb.set 0 (vi 0)).set 1 (vi 0)
        have k0 := k.at 0 (v := vi 0) rfl
        have k1 := k.at 1 (v := vi 0) rfl
        exact bodyPost_ret (v := .tuple #[.agg #[vi 0, vi 0], .int .i64 2]) (by simp [results, Try.results42, go_sem, k0, k1]) rfl ⟨rfl, (HA.out.below.setCell (p := ⟨w.heap.size + 1 + 1, 0, none⟩) (by dsimp only; omega) _).setCell (p := ⟨w.heap.size + 1 + 1, 1, none⟩) (by dsimp only; omega) _⟩
      | true =>
        rw [hall, if_pos rfl] at he1
        cases hkn : knownB g days with
        | true =>
          rw [hkn, if_pos rfl] at he1
          exact absurd he1 h0
        | false =>
          rw [hkn, if_neg (by decide)] at he1
          subst he1
          have HALL := Lib.hid hall
          have HKN := Lib.hid hkn
          clear h0 he hall hkn
          go_enter Try.func42, Try.ntmps42
          go_wp2_with fail
          refine (HK.out).mono ?_
          rintro e w1 ⟨rfl, hb⟩
          have HA := Lib.hid (HM.out.next hb)
          clear hb HM HK
          go_wp2_with fail
          have HAL := Lib.hid (allRdg_any l (rdgB g.cells.length days.length) rp R w.heap.size (w.heap.size + 1) w1 hl ((HR.out.below HA.out.below).more HA.out.below.size) (fun c W hW => checkReading_any c w.heap.size (w.heap.size + 1) A g.cells.length ap D days.length dp W hn hm ((HA.out.next hW).gb.at 0 rfl) ((HA.out.next hW).db.at 0 rfl)))
          rw [HALL.out] at HAL
          refine (HAL.out).mono ?_
          rintro e w2 ⟨rfl, hb⟩
          have HA2 := Lib.hid (HA.out.next hb)
          clear hb HA HAL
          have g0 := (HA2.out.gb).at 0 (v := .slice A g.cells.length ap) rfl
          have g1 := (HA2.out.gb).at 1 (v := vi g.slo) rfl
          have g2 := (HA2.out.gb).at 2 (v := vi g.shi) rfl
          have g3 := (HA2.out.gb).at 3 (v := vi g.klo) rfl
          have g4 := (HA2.out.gb).at 4 (v := vi g.khi) rfl
          have g5 := (HA2.out.gb).at 5 (v := vi g.melt) rfl
          have d0 := HA2.out.db.at 0 (v := .slice D days.length dp) rfl
          go_wp2_with fail
          have HKW := Lib.hid (known_any g A ap days D dp w2 hn hm ((HC.out.below HA2.out.below).more HA2.out.below.size) ((HD.out.below HA2.out.below).more HA2.out.below.size))
          rw [HKN.out] at HKW
          refine (HKW.out).mono ?_
          rintro e w3 ⟨rfl, hb⟩
          have HA := Lib.hid (HA2.out.next hb)
          clear hb HA2 HKW g0 g1 g2 g3 g4 g5 d0
          have x0 := HA.out.rb.at 0 (v := vi 0) rfl
          have x1 := HA.out.rb.at 1 (v := vi 0) rfl
          have y0 := HA.out.rb.free 0
          have y1 := HA.out.rb.free 1
          go_wp2_with fail
          have k := (HA.out.rb.set 0 (vi 0)).set 1 (vi 0)
          have k0 := k.at 0 (v := vi 0) rfl
          have k1 := k.at 1 (v := vi 0) rfl
          exact bodyPost_ret (v := .tuple #[.agg #[vi 0, vi 0], .int .i64 8]) (by simp [results, Try.results42, go_sem, k0, k1]) rfl ⟨rfl, (HA.out.below.setCell (p := ⟨w.heap.size + 1 + 1, 0, none⟩) (by dsimp only; omega) _).setCell (p := ⟨w.heap.size + 1 + 1, 1, none⟩) (by dsimp only; omega) _⟩
  · have he1 := he
    unfold lnErr at he1
    rw [if_neg hf] at he1
    have hfb : (er == 0) = false := by simpa using h0
    have hfn : (er != 0) = true := by simpa using h0
    rw [← he1] at HK
    clear h0 he hf he1
    go_enter Try.func42, Try.ntmps42
    go_wp2_with fail
    refine (HK.out).mono ?_
    rintro e w1 ⟨rfl, hb⟩
    have HA := Lib.hid (HM.out.next hb)
    clear hb HM HK
    have x0 := HA.out.rb.at 0 (v := vi 0) rfl
    have x1 := HA.out.rb.at 1 (v := vi 0) rfl
    have y0 := HA.out.rb.free 0
    have y1 := HA.out.rb.free 1
    go_wp2_with fail
    have k := (HA.out.rb.set 0 (vi 0)).set 1 (vi 0)
    have k0 := k.at 0 (v := vi 0) rfl
    have k1 := k.at 1 (v := vi 0) rfl
    exact bodyPost_ret (v := .tuple #[.agg #[vi 0, vi 0], .int .i64 er]) (by simp [results, Try.results42, go_sem, k0, k1]) rfl ⟨rfl, (HA.out.below.setCell (p := ⟨w.heap.size + 1 + 1, 0, none⟩) (by dsimp only; omega) _).setCell (p := ⟨w.heap.size + 1 + 1, 1, none⟩) (by dsimp only; omega) _⟩

/-- The bound method, its way begun. -/
def vRunM (B : Nat) (g : Gnd) (A : Option Addr) (ap : Nat) (days : List Day) (D : Option Addr) (dp : Nat) (v : Value) (W : World) : Prop :=
  ∃ b L lp R rp, v = .func (.func 75) #[.pointer (some ⟨b, 0, none⟩)] #[] ∧ B ≤ b ∧ OnWay W b (mkWay g A ap days D dp false L lp R rp) (stEnd false g).f (stEnd false g).snow 0
theorem vRunM_st {B : Nat} {g : Gnd} {A : Option Addr} {ap : Nat} {days : List Day} {D : Option Addr} {dp : Nat} : ∀ v W W', vRunM B g A ap days D dp v W → newer W W' → vRunM B g A ap days D dp v W' := fun _ _ _ ⟨b, L, lp, R, rp, h1, h2, h3⟩ hb => ⟨b, L, lp, R, rp, h1, h2, h3.below hb h3.blk.lt⟩
/-- What a search has found. -/
def vLow (p : Int → Bool) (a b : Int) (v : Value) (_ : World) : Prop := ∃ n, v = vi n ∧ Halved p a b n (n - 1)
theorem vLow_st {p : Int → Bool} {a b : Int} : ∀ v W W', vLow p a b v W → newer W W' → vLow p a b v W' := fun _ _ _ h _ => h
def vLow1 (p : Int → Bool) (a b : Int) (v : Value) (_ : World) : Prop := ∃ n, v = vi (n - 1) ∧ Halved p a b n (n - 1)
theorem vLow1_st {p : Int → Bool} {a b : Int} : ∀ v W W', vLow1 p a b v W → newer W W' → vLow1 p a b v W' := fun _ _ _ h _ => h
def vLow2 (p q : Int → Bool) (a b : Int) (v : Value) (_ : World) : Prop := ∃ n m, v = .agg #[vi n, vi (m - 1)] ∧ Halved p a b n (n - 1) ∧ Halved q a b m (m - 1)
theorem vLow2_st {p q : Int → Bool} {a b : Int} : ∀ v W W', vLow2 p q a b v W → newer W W' → vLow2 p q a b v W' := fun _ _ _ h _ => h
/-- What Learn leaves, where it is asked rightly. -/
def learnOut (g : Gnd) (days : List Day) (l : List Rdg) (v : Value) : Prop :=
  ∃ n m : Int, Halved (allB g days (readM l) geLo) g.klo g.khi n (n - 1) ∧ Halved (fun x => !allB g days (readM l) leHi x) g.klo g.khi m (m - 1) ∧ v = (if m - 1 < n then .tuple #[.agg #[vi 0, vi 0], vi 7] else .tuple #[.agg #[vi n, vi (m - 1)], vi 0])
theorem lnErr_zero {g : Gnd} {days : List Day} {l : List Rdg} (h : lnErr g days l = 0) : faultN g days = 0 ∧ l.length ≤ 30 ∧ l.all (rdgB g.cells.length days.length) = true ∧ knownB g days = true := by
  unfold lnErr at h
  by_cases hf : faultN g days = 0
  · rw [if_pos hf] at h
    by_cases h1 : 30 < l.length
    · rw [if_pos h1] at h; omega
    · rw [if_neg h1] at h
      by_cases h2 : l.all (rdgB g.cells.length days.length) = true
      · rw [if_pos h2] at h
        by_cases h3 : knownB g days = true
        · exact ⟨hf, by omega, h2, h3⟩
        · rw [if_neg h3] at h; omega
      · rw [if_neg h2] at h; omega
  · rw [if_neg hf] at h
    exact absurd h hf

set_option maxRecDepth 100000 in
set_option maxHeartbeats 4000000 in
theorem learn_yes (g : Gnd) (A : Option Addr) (ap : Nat) (days : List Day) (D : Option Addr) (dp : Nat) (l : List Rdg) (R : Option Addr) (rp : Nat) (w : World)
    (hc : Row cellL 7 w w.heap.size A g.cells) (hd : Row dayL 3 w w.heap.size D days) (hr : Row rdgL 4 w w.heap.size R l) (h0 : lnErr g days l = 0) :
    Calls Try.prog 42 #[gndV A ap g, .slice D days.length dp, .slice R l.length rp] w fun e w' => (∃ v, e = .returned v ∧ learnOut g days l v) ∧ newer w w' := by
  obtain ⟨hf, hlen, hall, hkn⟩ := lnErr_zero h0
  have hn8 := (fault_cells hf).2
  have hn1 := (fault_cells hf).1
  have hm30 := (fault_zero hf).2.1
  have hg1 := (fault_zero hf).1
  simp only [gndB, Bool.and_eq_true, inB, upB, decide_eq_true_eq] at hg1
  obtain ⟨⟨⟨⟨⟨_, _⟩, _⟩, hks⟩, _⟩, _⟩ := hg1
  have hk0 : 0 ≤ g.klo := hks.1.1
  have hk1 : g.klo ≤ g.khi := hks.1.2
  have hk2 : g.khi ≤ 1000 := hks.2
  have HC := Lib.hid hc
  have HD := Lib.hid hd
  have HR := Lib.hid hr
  have HM := Lib.hid (LnA.made w (gndC A ap g) (.slice D days.length dp))
  have HK := Lib.hid (check_any g ap A days dp D (((w.alloc (.cells (gndC A ap g) 38)).alloc (.cells #[.slice D days.length dp] 40)).alloc (.cells #[vi 0, vi 0] 36)) (by omega) (by omega) (row_alloc (row_alloc (row_alloc hc _) _) _) (row_alloc (row_alloc (row_alloc hd _) _) _))
  rw [hf] at HK
  have HF := Lib.hid hf
  have HALL := Lib.hid hall
  have HKN := Lib.hid hkn
  have HSP := Lib.hid (readM_spots (n := g.cells.length) (m := days.length) l (fun x hx => List.all_eq_true.1 hall x hx))
  have hli : ¬ ((30 : Int) < l.length) := by omega
  clear hc hd hr hf hall hkn hks h0
  go_enter Try.func42, Try.ntmps42
  go_wp2_with fail
  refine (HK.out).mono ?_
  rintro e w1 ⟨rfl, hb⟩
  have HA := Lib.hid (HM.out.next hb)
  clear hb HM HK
  go_wp2_with fail
  have HAL := Lib.hid (allRdg_any l (rdgB g.cells.length days.length) rp R w.heap.size (w.heap.size + 1) w1 (by omega) ((HR.out.below HA.out.below).more HA.out.below.size) (fun c W hW => checkReading_any c w.heap.size (w.heap.size + 1) A g.cells.length ap D days.length dp W (by omega) (by omega) ((HA.out.next hW).gb.at 0 rfl) ((HA.out.next hW).db.at 0 rfl)))
  rw [HALL.out] at HAL
  refine (HAL.out).mono ?_
  rintro e w2 ⟨rfl, hb⟩
  have HA2 := Lib.hid (HA.out.next hb)
  clear hb HA HAL
  have g0 := (HA2.out.gb).at 0 (v := .slice A g.cells.length ap) rfl
  have g1 := (HA2.out.gb).at 1 (v := vi g.slo) rfl
  have g2 := (HA2.out.gb).at 2 (v := vi g.shi) rfl
  have g3 := (HA2.out.gb).at 3 (v := vi g.klo) rfl
  have g4 := (HA2.out.gb).at 4 (v := vi g.khi) rfl
  have g5 := (HA2.out.gb).at 5 (v := vi g.melt) rfl
  have d0 := HA2.out.db.at 0 (v := .slice D days.length dp) rfl
  go_wp2_with fail
  have HKW := Lib.hid (known_any g A ap days D dp w2 (by omega) (by omega) ((HC.out.below HA2.out.below).more HA2.out.below.size) ((HD.out.below HA2.out.below).more HA2.out.below.size))
  rw [HKN.out] at HKW
  refine (HKW.out).mono ?_
  rintro e wv ⟨rfl, hb⟩
  have HA := Lib.hid (HA2.out.next hb)
  clear hb HA2 HKW g0 g1 g2 g3 g4 g5 d0
  have g0 := (HA.out.gb).at 0 (v := .slice A g.cells.length ap) rfl
  have g1 := (HA.out.gb).at 1 (v := vi g.slo) rfl
  have g2 := (HA.out.gb).at 2 (v := vi g.shi) rfl
  have g3 := (HA.out.gb).at 3 (v := vi g.klo) rfl
  have g4 := (HA.out.gb).at 4 (v := vi g.khi) rfl
  have g5 := (HA.out.gb).at 5 (v := vi g.melt) rfl
  have d0 := HA.out.db.at 0 (v := .slice D days.length dp) rfl
  go_wp2_with fail
  refine wp_words (by kernel_rfl) (region_told 9 (by kernel_rfl) (by kernel_rfl) (fun W => Below wv.heap.size wv W) newer (pickD [vIs (gndV A ap g), vIs (.slice D days.length dp), vIs (choiceV false), vIs (gndV A ap g), vIs (.slice D days.length dp), vTruth wv.heap.size false g days, vWay wv.heap.size g A ap days D dp false, vRunM wv.heap.size g A ap days D dp, vNew wv.heap.size 137 #[.nilFunc]]) (fun h k => newer_trans h k) (pickD_stable _ ⟨vIs_st, vIs_st, vIs_st, vIs_st, vIs_st, vTruth_st, vWay_st, vRunM_st, vNew_st, trivial⟩) (Below.refl _ wv).drew (Below.refl _ _) ?_ ?_)
  · refine ⟨?_, ?_, ?_, ?_, ?_, ?_, ?_, ?_, ?_, trivial⟩
    · intro a W hG hR hO hp
      have h3 := hO.slot 3 (by kernel_rfl)
      have c0 := keep_cell g0 hG
      have c1 := keep_cell g1 hG
      have c2 := keep_cell g2 hG
      have c3 := keep_cell g3 hG
      have c4 := keep_cell g4 hG
      have c5 := keep_cell g5 hG
      refine wp_yields (v := gndV A ap g) ?_ ⟨_, rfl, rfl, Below.refl _ _, hG⟩
      simp [slotOf] at h3
      simp [execOp, go_sem, h3, c0, c1, c2, c3, c4, c5]
    · intro a W hG hR hO hp
      have h4 := hO.slot 4 (by kernel_rfl)
      have c0 := keep_cell d0 hG
      refine wp_yields (v := .slice D days.length dp) ?_ ⟨_, rfl, rfl, Below.refl _ _, hG⟩
      simp [slotOf] at h4
      simp [execOp, go_sem, h4, c0]
    · intro a W hG hR hO hp
      refine wp_enters (f := 53) (args := #[]) ?_ ((least_any _).mono ?_)
      · skip
        simp [go_sem]
      · rintro e w' ⟨rfl, hb⟩
        exact ⟨_, rfl, _, rfl, rfl, hb, below_next hG hb⟩
    · intro a W hG hR hO hp
      have h3 := hO.slot 3 (by kernel_rfl)
      have c0 := keep_cell g0 hG
      have c1 := keep_cell g1 hG
      have c2 := keep_cell g2 hG
      have c3 := keep_cell g3 hG
      have c4 := keep_cell g4 hG
      have c5 := keep_cell g5 hG
      refine wp_yields (v := gndV A ap g) ?_ ⟨_, rfl, rfl, Below.refl _ _, hG⟩
      simp [slotOf] at h3
      simp [execOp, go_sem, h3, c0, c1, c2, c3, c4, c5]
    · intro a W hG hR hO hp
      have h4 := hO.slot 4 (by kernel_rfl)
      have c0 := keep_cell d0 hG
      refine wp_yields (v := .slice D days.length dp) ?_ ⟨_, rfl, rfl, Below.refl _ _, hG⟩
      simp [slotOf] at h4
      simp [execOp, go_sem, h4, c0]
    · intro a W hG hR hO hp
      have h41 : slotOf a 41 = choiceV false := hp.1
      have h42 : slotOf a 42 = gndV A ap g := hp.2.1
      have h43 : slotOf a 43 = .slice D days.length dp := hp.2.2.1
      refine wp_enters (f := 54) (args := #[choiceV false, gndV A ap g, .slice D days.length dp]) ?_ ((truth_end false g A ap days D dp W (by omega) (by omega) ((HC.out.below (below_next HA.out.below hG)).more (below_next HA.out.below hG).size) ((HD.out.below (below_next HA.out.below hG)).more (below_next HA.out.below hG).size)).mono ?_)
      · simp [slotOf] at h41 h42 h43
        simp [go_sem, h41, h42, h43]
      · rintro e w' ⟨L, lp, R', rp', rfl, h2, h3, hb, h4, h5⟩
        exact ⟨_, rfl, _, rfl, ⟨L, lp, R', rp', rfl, h2, h3, fun a e => Nat.le_trans hG.size (h4 a e), fun a e => Nat.le_trans hG.size (h5 a e)⟩, hb, below_next hG hb⟩
    · intro a W hG hR hO hp
      have h39 : slotOf a 39 = gndV A ap g := hp.1
      have h40 : slotOf a 40 = .slice D days.length dp := hp.2.1
      have h44 := hp.2.2.1
      obtain ⟨L, lp, R', rp', h44, h2, h3, h4, h5⟩ := h44
      refine wp_enters (f := 52) (args := #[gndV A ap g, .slice D days.length dp, truthV (endOf false g.slo g.shi) (endOf false g.klo g.khi) L g.cells.length lp R' days.length rp']) ?_ ((begin_end false g A ap days D dp L lp R' rp' W (by omega) ((HC.out.below (below_next HA.out.below hG)).more (below_next HA.out.below hG).size) ((HD.out.below (below_next HA.out.below hG)).more (below_next HA.out.below hG).size) h2 h3).mono ?_)
      · simp [slotOf] at h39 h40 h44
        simp [go_sem, h39, h40, h44]
      · rintro e w' ⟨b, rfl, hb1, hb2, hb⟩
        exact ⟨_, rfl, _, rfl, ⟨b, L, lp, R', rp', rfl, Nat.le_trans hG.size hb1, hb2, h4, h5⟩, hb, below_next hG hb⟩
    · intro a W hG hR hO hp
      have h45 := hp.1
      obtain ⟨b, L, lp, R', rp', h45, h2, h3, _, _⟩ := h45
      refine wp_yields (v := .func (.func 75) #[.pointer (some ⟨b, 0, none⟩)] #[]) ?_ ⟨_, rfl, ⟨b, L, lp, R', rp', rfl, h2, h3⟩, Below.refl _ _, hG⟩
      simp [slotOf] at h45
      simp [execOp, go_sem, h45]
    · intro a W hG hR hO hp
      refine wp_makes (v := .pointer (some ⟨W.heap.size, 0, none⟩)) (W' := W.alloc (.cells #[.nilFunc] 137)) ?_ ⟨_, rfl, ⟨_, rfl, hG.size, Whole.made _ _ _⟩, (Below.refl _ _).alloc (Nat.le_refl _) _, hG.alloc hG.size _⟩
      skip
      simp [execOp, go_sem]
  · intro W hG hR
    rintro _ rfl _ rfl _ rfl _ rfl _ rfl _ ⟨_, _, _, _, rfl, -, -, -, -⟩ _ ⟨_, _, _, _, _, rfl, -, -, -, -⟩ _ ⟨b, L, lp, R', rp', rfl, hbw, hway⟩ _ ⟨rb, rfl, hrb, hwr⟩
    change wpList _ _ _ _ _ _
    simp only [Act.put, List.setIfInBounds_toArray, List.set_cons_zero, List.set_cons_succ, List.drop_succ_cons, List.drop_zero]
    have hvn : ∀ n, Value.nilFunc ≠ vi n := fun n e => by cases e
    have HX := Lib.hid (And.intro (HA.out.next hG) (And.intro hway (And.intro hwr (And.intro hG (And.intro hrb hbw)))))
    have x0 := hwr.at 0 rfl
    have f0 := hwr.free 0
    clear hG hR hway hwr hrb hbw g0 g1 g2 g3 g4 g5 d0
    have HY : Hid (LnA w (gndC A ap g) (.slice D days.length dp) (W.setCell ⟨rb, 0, none⟩ (.func (.func 75) #[.pointer (some ⟨b, 0, none⟩)] #[])) ∧ OnWay (W.setCell ⟨rb, 0, none⟩ (.func (.func 75) #[.pointer (some ⟨b, 0, none⟩)] #[])) b (mkWay g A ap days D dp false L lp R' rp') (stEnd false g).f (stEnd false g).snow 0 ∧ Whole (W.setCell ⟨rb, 0, none⟩ (.func (.func 75) #[.pointer (some ⟨b, 0, none⟩)] #[])) rb 137 #[.func (.func 75) #[.pointer (some ⟨b, 0, none⟩)] #[]]) :=
      Lib.hid ⟨HA.out.next (HX.out.2.2.2.1.setCell (p := ⟨rb, 0, none⟩) HX.out.2.2.2.2.1 _), HX.out.2.1.var' hvn (by decide) HX.out.2.2.1 _, HX.out.2.2.1.set 0 _⟩
    go_wp2_with fail
    obtain ⟨w4, hw4⟩ : ∃ w4, w4 = W.setCell ⟨rb, 0, none⟩ (.func (.func 75) #[.pointer (some ⟨b, 0, none⟩)] #[]) := ⟨_, rfl⟩
    rw [← hw4] at HY ⊢
    clear hw4 HX x0 f0 HA
    refine (read_any l R rp w4 (by omega) ((HR.out.below HY.out.1.below).more HY.out.1.below.size)).mono ?_
    rintro e w5 ⟨rfl, hmap, hb⟩
    obtain ⟨mp, hmp⟩ : ∃ mp, mp = w4.heap.size := ⟨_, rfl⟩
    rw [← hmp] at hmap ⊢
    have HZ := Lib.hid (And.intro (HY.out.1.next hb) (And.intro (HY.out.2.1.below hb HY.out.2.1.blk.lt) (And.intro (HY.out.2.2.below hb HY.out.2.2.lt) hmap)))
    clear hb hmap hmp HY
    go_upto_region 14 with fail
    have HQ : Hid (LnA w (gndC A ap g) (.slice D days.length dp) ((w5.alloc (.cells #[.map (some mp)] 138)).alloc (.cells #[.func (.func 77) #[] #[.pointer (some ⟨rb, 0, none⟩), .pointer (some ⟨w5.heap.size, 0, none⟩)]] 143)) ∧ LnF (mkWay g A ap days D dp false L lp R' rp') b rb w5.heap.size mp (w5.heap.size + 1) (stEnd false g).f (stEnd false g).snow 0 (readM l) ((w5.alloc (.cells #[.map (some mp)] 138)).alloc (.cells #[.func (.func 77) #[] #[.pointer (some ⟨rb, 0, none⟩), .pointer (some ⟨w5.heap.size, 0, none⟩)]] 143))) := by
      have hnn : newer w5 ((w5.alloc (.cells #[.map (some mp)] 138)).alloc (.cells #[.func (.func 77) #[] #[.pointer (some ⟨rb, 0, none⟩), .pointer (some ⟨w5.heap.size, 0, none⟩)]] 143)) := newer_trans (newer_allocH _ _) (newer_allocH _ _)
      refine Lib.hid ⟨HZ.out.1.next hnn, ⟨⟨HZ.out.2.1.below hnn HZ.out.2.1.blk.lt, HZ.out.2.2.1.below hnn HZ.out.2.2.1.lt, (Whole.made _ _ _).alloc _, HZ.out.2.2.2.next hnn⟩, ?_⟩⟩
      have h := Whole.made (w5.alloc (.cells #[.map (some mp)] 138)) 143 #[.func (.func 77) #[] #[.pointer (some ⟨rb, 0, none⟩), .pointer (some ⟨w5.heap.size, 0, none⟩)]]
      simpa using h
    obtain ⟨wv, hwv⟩ : ∃ wv, wv = (w5.alloc (.cells #[.map (some mp)] 138)).alloc (.cells #[.func (.func 77) #[] #[.pointer (some ⟨rb, 0, none⟩), .pointer (some ⟨w5.heap.size, 0, none⟩)]] 143) := ⟨_, rfl⟩
    obtain ⟨m5, hm5⟩ : ∃ m5, m5 = w5.heap.size := ⟨_, rfl⟩
    rw [← hwv, ← hm5] at HQ ⊢
    clear hwv hm5 HZ w5
    have g3 := HQ.out.1.gb.at 3 (v := vi g.klo) rfl
    have g4 := HQ.out.1.gb.at 4 (v := vi g.khi) rfl
    have HOKS : Hid (∀ n, g.klo ≤ n → n ≤ g.khi → WayOk (mkWay g A ap days D dp false L lp R' rp').l (mkWay g A ap days D dp false L lp R' rp').melt n (mkWay g A ap days D dp false L lp R' rp').days (mkWay g A ap days D dp false L lp R' rp').rain ⟨iAt (mkWay g A ap days D dp false L lp R' rp').levels, (mkWay g A ap days D dp false L lp R' rp').tsnow, 0⟩) := Lib.hid fun n h1 h2 => wayOk_soak HF.out h1 h2
    have hl8 : (mkWay g A ap days D dp false L lp R' rp').levels.length ≤ 8 := by simp [mkWay]; exact hn8
    have HL8 := Lib.hid hl8
    have HSO : Hid (spotsOk (mkWay g A ap days D dp false L lp R' rp') (readM l)) := HSP
    clear hl8
    refine wp_words (by kernel_rfl) (region_told 19 (by kernel_rfl) (by kernel_rfl) (fun W => Below wv.heap.size wv W) newer (pickD [vIs (.pointer (some ⟨w.heap.size, 3, none⟩)), vIs (.pointer (some ⟨w.heap.size, 3, none⟩)), vIs (vi g.klo), vIs (.pointer (some ⟨w.heap.size, 3, none⟩)), vIs (.pointer (some ⟨w.heap.size, 4, none⟩)), vIs (vi g.khi), vIs (.func (.func 78) #[] #[.pointer (some ⟨m5 + 1, 0, none⟩)]), vLow (allB g days (readM l) geLo) g.klo g.khi, vIs (.pointer (some ⟨w.heap.size, 3, none⟩)), vIs (.pointer (some ⟨w.heap.size, 3, none⟩)), vIs (vi g.klo), vIs (.pointer (some ⟨w.heap.size, 3, none⟩)), vIs (.pointer (some ⟨w.heap.size, 4, none⟩)), vIs (vi g.khi), vIs (.func (.func 80) #[] #[.pointer (some ⟨m5 + 1, 0, none⟩)]), vLow (fun x => !allB g days (readM l) leHi x) g.klo g.khi, vLow1 (fun x => !allB g days (readM l) leHi x) g.klo g.khi, vLow2 (allB g days (readM l) geLo) (fun x => !allB g days (readM l) leHi x) g.klo g.khi, vNew wv.heap.size 36 #[vi 0, vi 0]]) (fun h k => newer_trans h k) (pickD_stable _ ⟨vIs_st, vIs_st, vIs_st, vIs_st, vIs_st, vIs_st, vIs_st, vLow_st, vIs_st, vIs_st, vIs_st, vIs_st, vIs_st, vIs_st, vIs_st, vLow_st, vLow1_st, vLow2_st, vNew_st, trivial⟩) (Below.refl _ wv).drew (Below.refl _ _) ?_ ?_)
    · refine ⟨?_, ?_, ?_, ?_, ?_, ?_, ?_, ?_, ?_, ?_, ?_, ?_, ?_, ?_, ?_, ?_, ?_, ?_, ?_, trivial⟩
      · intro a W hG hR hO hp
        have h3 := hO.slot 3 (by kernel_rfl)
        refine wp_yields (v := .pointer (some ⟨w.heap.size, 3, none⟩)) ?_ ⟨_, rfl, rfl, Below.refl _ _, hG⟩
        simp [slotOf] at h3
        simp [execOp, go_sem, h3]
      · intro a W hG hR hO hp
        have h50 : slotOf a 50 = .pointer (some ⟨w.heap.size, 3, none⟩) := hp.1
        refine wp_yields (v := .pointer (some ⟨w.heap.size, 3, none⟩)) ?_ ⟨_, rfl, rfl, Below.refl _ _, hG⟩
        simp [slotOf] at h50
        simp [execOp, go_sem, h50]
      · intro a W hG hR hO hp
        have h51 : slotOf a 51 = .pointer (some ⟨w.heap.size, 3, none⟩) := hp.1
        have c0 := keep_cell g3 hG
        refine wp_yields (v := vi g.klo) ?_ ⟨_, rfl, rfl, Below.refl _ _, hG⟩
        simp [slotOf] at h51
        simp [execOp, go_sem, h51, c0]
      · intro a W hG hR hO hp
        have h3 := hO.slot 3 (by kernel_rfl)
        refine wp_yields (v := .pointer (some ⟨w.heap.size, 3, none⟩)) ?_ ⟨_, rfl, rfl, Below.refl _ _, hG⟩
        simp [slotOf] at h3
        simp [execOp, go_sem, h3]
      · intro a W hG hR hO hp
        have h53 : slotOf a 53 = .pointer (some ⟨w.heap.size, 3, none⟩) := hp.1
        refine wp_yields (v := .pointer (some ⟨w.heap.size, 4, none⟩)) ?_ ⟨_, rfl, rfl, Below.refl _ _, hG⟩
        simp [slotOf] at h53
        simp [execOp, go_sem, h53]
      · intro a W hG hR hO hp
        have h54 : slotOf a 54 = .pointer (some ⟨w.heap.size, 4, none⟩) := hp.1
        have c0 := keep_cell g4 hG
        refine wp_yields (v := vi g.khi) ?_ ⟨_, rfl, rfl, Below.refl _ _, hG⟩
        simp [slotOf] at h54
        simp [execOp, go_sem, h54, c0]
      · intro a W hG hR hO hp
        have h12 := hO.slot 12 (by kernel_rfl)
        refine wp_yields (v := .func (.func 78) #[] #[.pointer (some ⟨m5 + 1, 0, none⟩)]) ?_ ⟨_, rfl, rfl, Below.refl _ _, hG⟩
        simp [slotOf] at h12
        simp [execOp, go_sem, h12]
      · intro a W hG hR hO hp
        have h52 : slotOf a 52 = vi g.klo := hp.1
        have h55 : slotOf a 55 = vi g.khi := hp.2.1
        have h56 : slotOf a 56 = .func (.func 78) #[] #[.pointer (some ⟨m5 + 1, 0, none⟩)] := hp.2.2.1
        refine wp_enters (f := 62) (args := #[vi g.klo, vi g.khi, .func (.func 78) #[] #[.pointer (some ⟨m5 + 1, 0, none⟩)]]) ?_ ((lowest78 (allB g days (readM l) geLo) g.klo g.khi (.pointer (some ⟨m5 + 1, 0, none⟩)) (fun X => newer W X) W hk0 (by omega) (by omega) (Below.refl _ _) (fun n X h1 h2 hX => (test78 n X (HQ.out.2.next (newer_trans hG hX)) (HOKS.out n h1 h2) HL8.out hn1 HSO.out).mono fun e w' ⟨he, hb⟩ => ⟨he, newer_trans hX hb⟩)).mono ?_)
        · simp [slotOf] at h52 h55 h56
          simp [go_sem, h52, h55, h56]
        · rintro e w' ⟨n, rfl, hh, hb⟩
          exact ⟨_, rfl, _, rfl, ⟨n, rfl, hh⟩, hb, below_next hG hb⟩
      · intro a W hG hR hO hp
        have h3 := hO.slot 3 (by kernel_rfl)
        refine wp_yields (v := .pointer (some ⟨w.heap.size, 3, none⟩)) ?_ ⟨_, rfl, rfl, Below.refl _ _, hG⟩
        simp [slotOf] at h3
        simp [execOp, go_sem, h3]
      · intro a W hG hR hO hp
        have h58 : slotOf a 58 = .pointer (some ⟨w.heap.size, 3, none⟩) := hp.1
        refine wp_yields (v := .pointer (some ⟨w.heap.size, 3, none⟩)) ?_ ⟨_, rfl, rfl, Below.refl _ _, hG⟩
        simp [slotOf] at h58
        simp [execOp, go_sem, h58]
      · intro a W hG hR hO hp
        have h59 : slotOf a 59 = .pointer (some ⟨w.heap.size, 3, none⟩) := hp.1
        have c0 := keep_cell g3 hG
        refine wp_yields (v := vi g.klo) ?_ ⟨_, rfl, rfl, Below.refl _ _, hG⟩
        simp [slotOf] at h59
        simp [execOp, go_sem, h59, c0]
      · intro a W hG hR hO hp
        have h3 := hO.slot 3 (by kernel_rfl)
        refine wp_yields (v := .pointer (some ⟨w.heap.size, 3, none⟩)) ?_ ⟨_, rfl, rfl, Below.refl _ _, hG⟩
        simp [slotOf] at h3
        simp [execOp, go_sem, h3]
      · intro a W hG hR hO hp
        have h61 : slotOf a 61 = .pointer (some ⟨w.heap.size, 3, none⟩) := hp.1
        refine wp_yields (v := .pointer (some ⟨w.heap.size, 4, none⟩)) ?_ ⟨_, rfl, rfl, Below.refl _ _, hG⟩
        simp [slotOf] at h61
        simp [execOp, go_sem, h61]
      · intro a W hG hR hO hp
        have h62 : slotOf a 62 = .pointer (some ⟨w.heap.size, 4, none⟩) := hp.1
        have c0 := keep_cell g4 hG
        refine wp_yields (v := vi g.khi) ?_ ⟨_, rfl, rfl, Below.refl _ _, hG⟩
        simp [slotOf] at h62
        simp [execOp, go_sem, h62, c0]
      · intro a W hG hR hO hp
        have h12 := hO.slot 12 (by kernel_rfl)
        refine wp_yields (v := .func (.func 80) #[] #[.pointer (some ⟨m5 + 1, 0, none⟩)]) ?_ ⟨_, rfl, rfl, Below.refl _ _, hG⟩
        simp [slotOf] at h12
        simp [execOp, go_sem, h12]
      · intro a W hG hR hO hp
        have h60 : slotOf a 60 = vi g.klo := hp.1
        have h63 : slotOf a 63 = vi g.khi := hp.2.1
        have h64 : slotOf a 64 = .func (.func 80) #[] #[.pointer (some ⟨m5 + 1, 0, none⟩)] := hp.2.2.1
        refine wp_enters (f := 62) (args := #[vi g.klo, vi g.khi, .func (.func 80) #[] #[.pointer (some ⟨m5 + 1, 0, none⟩)]]) ?_ ((lowest80 (fun x => !allB g days (readM l) leHi x) g.klo g.khi (.pointer (some ⟨m5 + 1, 0, none⟩)) (fun X => newer W X) W hk0 (by omega) (by omega) (Below.refl _ _) (fun n X h1 h2 hX => (test80 n X (HQ.out.2.next (newer_trans hG hX)) (HOKS.out n h1 h2) HL8.out hn1 HSO.out).mono fun e w' ⟨he, hb⟩ => ⟨he, newer_trans hX hb⟩)).mono ?_)
        · simp [slotOf] at h60 h63 h64
          simp [go_sem, h60, h63, h64]
        · rintro e w' ⟨n, rfl, hh, hb⟩
          exact ⟨_, rfl, _, rfl, ⟨n, rfl, hh⟩, hb, below_next hG hb⟩
      · intro a W hG hR hO hp
        have h65 := hp.1
        obtain ⟨m, h65, hm⟩ := h65
        have hmw : IntKind.i64.wrap (m - 1) = m - 1 := IntWalk.i64_in _ (by have := hm.le1; have := hm.le3; omega)
        refine wp_yields (v := vi (m - 1)) ?_ ⟨_, rfl, ⟨m, rfl, hm⟩, Below.refl _ _, hG⟩
        simp [slotOf] at h65
        simp [execOp, go_sem, h65, hmw]
      · intro a W hG hR hO hp
        have h57 := hp.1
        have h66 := hp.2.1
        obtain ⟨n, h57, hn⟩ := h57
        obtain ⟨m, h66, hm⟩ := h66
        refine wp_yields (v := .agg #[vi n, vi (m - 1)]) ?_ ⟨_, rfl, ⟨n, m, rfl, hn, hm⟩, Below.refl _ _, hG⟩
        simp [slotOf] at h57 h66
        simp [execOp, go_sem, h57, h66]
      · intro a W hG hR hO hp
        refine wp_makes (v := .pointer (some ⟨W.heap.size, 0, none⟩)) (W' := W.alloc (.cells #[vi 0, vi 0] 36)) ?_ ⟨_, rfl, ⟨_, rfl, hG.size, Whole.made _ _ _⟩, (Below.refl _ _).alloc (Nat.le_refl _) _, hG.alloc hG.size _⟩
        skip
        simp [execOp, go_sem]
    · intro W hG hR
      rintro _ rfl _ rfl _ rfl _ rfl _ rfl _ rfl _ rfl _ ⟨_, rfl, -⟩ _ rfl _ rfl _ rfl _ rfl _ rfl _ rfl _ rfl _ ⟨_, rfl, -⟩ _ ⟨_, rfl, -⟩ _ ⟨n, m, rfl, hn, hm⟩ _ ⟨ob, rfl, hob, hwo⟩
      change wpList _ _ _ _ _ _
      simp only [Act.put, List.setIfInBounds_toArray, List.set_cons_zero, List.set_cons_succ, List.drop_succ_cons, List.drop_zero]
      have hne : w.heap.size + 1 + 1 ≠ ob := by have := HQ.out.1.rb.lt; omega
      have HQ2 := Lib.hid (And.intro (HQ.out.1.next hG) hwo)
      have x0 := hwo.at 0 rfl
      have x1 := hwo.at 1 rfl
      have f0 := hwo.free 0
      have f1 := hwo.free 1
      have HLN := Lib.hid (And.intro hn hm)
      have hb1 := hn.le1
      have hb2 := hm.le1
      have hb3 := hn.le3
      have hb4 := hm.le3
      have HO1 := Lib.hid (((HQ2.out.1.rb).far (p := ⟨ob, 0, none⟩) hne (vi n)).far (p := ⟨ob, 1, none⟩) hne (vi (m - 1)))
      have HBL := Lib.hid ((HQ2.out.1.below.setCell (p := ⟨ob, 0, none⟩) (by have := HQ.out.1.rb.lt; dsimp only; omega) (vi n)).setCell (p := ⟨ob, 1, none⟩) (by have := HQ.out.1.rb.lt; dsimp only; omega) (vi (m - 1)))
      have r0 := HO1.out.at 0 rfl
      have r1 := HO1.out.at 1 rfl
      have q0 := HO1.out.free 0
      have q1 := HO1.out.free 1
      clear hG hR hwo hn hm g3 g4 HQ
      by_cases hlt : m - 1 < n
      · go_wp2_with fail
        have k := (HO1.out.set 0 (vi 0)).set 1 (vi 0)
        have k0 := k.at 0 (v := vi 0) rfl
        have k1 := k.at 1 (v := vi 0) rfl
        exact bodyPost_ret (v := .tuple #[.agg #[vi 0, vi 0], .int .i64 7]) (by simp [results, Try.results42, go_sem, k0, k1]) rfl ⟨⟨_, rfl, n, m, HLN.out.1, HLN.out.2, by rw [if_pos hlt]⟩, (HBL.out.setCell (p := ⟨w.heap.size + 1 + 1, 0, none⟩) (by dsimp only; omega) _).setCell (p := ⟨w.heap.size + 1 + 1, 1, none⟩) (by dsimp only; omega) _⟩
      · go_wp2_with fail
        have k := (HO1.out.set 0 (vi n)).set 1 (vi (m - 1))
        have k0 := k.at 0 (v := vi n) rfl
        have k1 := k.at 1 (v := vi (m - 1)) rfl
        exact bodyPost_ret (v := .tuple #[.agg #[vi n, vi (m - 1)], .int .i64 0]) (by simp [results, Try.results42, go_sem, k0, k1]) rfl ⟨⟨_, rfl, n, m, HLN.out.1, HLN.out.2, by rw [if_neg (by omega)]⟩, (HBL.out.setCell (p := ⟨w.heap.size + 1 + 1, 0, none⟩) (by dsimp only; omega) _).setCell (p := ⟨w.heap.size + 1 + 1, 1, none⟩) (by dsimp only; omega) _⟩
end Go.Proofs.Yteonkhohloabfaa

/- A region that draws its order and holds guarded operations, some of which come and some do not: by words. -/
namespace Go.Proofs.Yteonkhohloabfaa
open Go.RowKit
variable {P : Program}

theorem region_rel_s {l : List Oper} {n : Nat} {Q : Exit → Act → World → Prop} {a₀ : Act} {w : World} (hB : relG l n = true)
    (sk : Nat → Bool) (G : World → Prop) (Rl : Nat → World → World → Prop) (D : Nat → Value → World → Prop)
    (hgd : ∀ (i : Nat) (o : Oper) (j : Nat) (b : Bool), i < n → l[i]? = some o → o.guard = some (j, b) → ∀ v W, D j v W → v = .bool (if sk i then !b else b))
    (hsk : ∀ (i : Nat) (o : Oper), i < n → l[i]? = some o → sk i = true → o.guard ≠ none) (hDsk : ∀ i v W, sk i = true → D i v W)
    (hDs : ∀ i j v W W', i < n → j ≠ i → D j v W → Rl i W W' → D j v W')
    (hsz : ∀ i o d, i < n → l[i]? = some o → o.dst = some d → d < a₀.tmps.size)
    (hG : G w)
    (hstep : ∀ i o, i < n → l[i]? = some o → sk i = false → ∀ (listed : Array Bool) a W, listed.size = l.length → listed.getD i true = false → G W → Outer l n a₀ a →
      (∀ j oj d, j < n → l[j]? = some oj → oj.dst = some d → (∃ e ∈ o.after, Region.binds .any e = true ∧ e.on = j) → D j (slotOf a d) W) →
      o.wp P a W (fun a' W' => ∃ v, a' = a.put o.dst v ∧ D i v W' ∧ Rl i W W' ∧ G W') Q)
    (htail : ∀ (_ : Array Bool) a W, G W → Outer l n a₀ a → (∀ j oj d, j < n → l[j]? = some oj → oj.dst = some d → D j (slotOf a d) W) → wpList P l.toArray Q (l.drop n) a W) :
    wpAny P .any l.toArray Q l.toArray.size (Array.replicate l.toArray.size false) a₀ w := by
  simp only [relG, Bool.and_eq_true, decide_eq_true_eq] at hB
  obtain ⟨⟨⟨⟨⟨hn, hs⟩, hc⟩, hback⟩, hdst⟩, hseq⟩ := hB
  have hback' : ∀ (i : Nat) (o : Oper), l[i]? = some o → (∀ e ∈ o.after, Region.binds .any e = true → e.on < i) ∧ (∀ j b, o.guard = some (j, b) → j < i ∧ (∃ e ∈ o.after, Region.binds .any e = true ∧ e.on = j) ∧ ∃ oj dj, l[j]? = some oj ∧ oj.dst = some dj) := by
    intro i o ho
    have := List.all_eq_true.1 hback i (List.mem_range.2 (List.getElem?_eq_some_iff.1 ho).1)
    simp only [ho, Bool.and_eq_true, Array.all_eq_true_iff_forall_mem] at this
    refine ⟨fun e he hb => by simpa [hb] using this.1 e he, fun j b hg => ?_⟩
    have h2 := this.2
    rw [hg] at h2
    simp only [Bool.and_eq_true, decide_eq_true_eq, List.any_eq_true, beq_iff_eq] at h2
    obtain ⟨⟨h3, e, he, hb, hon⟩, h4⟩ := h2
    refine ⟨h3, ⟨e, Array.mem_toList_iff.1 he, hb, hon⟩, ?_⟩
    cases hj : l[j]? with
    | none => rw [hj] at h4; cases h4
    | some oj =>
      rw [hj] at h4
      obtain ⟨dj, hdj⟩ := Option.isSome_iff_exists.1 h4
      exact ⟨oj, dj, rfl, hdj⟩
  have hdst' : ∀ (i j : Nat) (o o' : Oper) (d : Tmp), i < n → j < n → i ≠ j → l[i]? = some o → l[j]? = some o' → o.dst = some d → o'.dst ≠ some d := by
    intro i j o o' d hi hj hij ho ho' hd hd'
    have := List.all_eq_true.1 (List.all_eq_true.1 hdst i (List.mem_range.2 hi)) j (List.mem_range.2 hj)
    simp [hij, ho, ho', hd, hd'] at this
  have key : ∀ (f : Nat) (listed : Array Bool) (a : Act) (W : World), HeadInv .any l.toArray n listed → ((List.range n).filter fun i => !listed.getD i false).length = f →
      G W → Outer l n a₀ a → (∀ (j : Nat) (oj : Oper) (d : Tmp), j < n → l[j]? = some oj → listed.getD j false = true → oj.dst = some d → D j (slotOf a d) W) →
      wpAny P .any l.toArray Q (f + (l.length - n)) listed a W := by
    intro f
    induction f with
    | zero =>
      intro listed a W inv hcnt hGW hO hD
      have hall : ∀ i, i < n → listed.getD i false = true := by
        intro i hi
        have := List.eq_nil_of_length_eq_zero hcnt
        have h2 := List.filter_eq_nil_iff.1 this i (List.mem_range.2 hi)
        simpa using h2
      have hcanon : listed = headDone n l.length := by
        apply Array.ext
        · rw [inv.size]; simp [headDone]
        · intro i h1 h2
          have hi : i < l.length := by simpa [headDone] using h2
          simp only [headDone, Array.getElem_ofFn]
          by_cases hin : i < n
          · have := hall i hin
            simp [h1] at this
            simp [this, hin]
          · have := inv.tail i (by omega) (by simpa using hi)
            simp [h1] at this
            simp [this, hin]
      rw [Nat.zero_add]
      have := wpAny_of_seq (md := .any) (Q' := Q) (P := P) (ops := l.toArray) (l.drop n) n listed a W (fun j => by simp [List.getElem?_drop]) (by rw [List.length_drop, hcanon]; exact hseq) (htail listed a W hGW hO (fun j oj d hj ho hd => hD j oj d hj ho (hall j hj) hd))
      rwa [List.length_drop] at this
    | succ f ih =>
      intro listed a W inv hcnt hGW hO hD
      -- some operation of the head has not come up
      have hex : ∃ i, i < n ∧ listed.getD i false = false ∧ ∀ j, j < i → listed.getD j false = true := by
        have hne : ((List.range n).filter fun i => !listed.getD i false) ≠ [] := by intro h; rw [h] at hcnt; cases hcnt
        have : ∃ i, i < n ∧ listed.getD i false = false := by
          obtain ⟨x, hx⟩ := List.exists_mem_of_ne_nil _ hne
          have hx' := List.mem_filter.1 hx
          exact ⟨x, List.mem_range.1 hx'.1, by simpa using hx'.2⟩
        obtain ⟨i, hi, hl⟩ := this
        have : ∀ k i, i ≤ k → i < n → listed.getD i false = false → ∃ i, i < n ∧ listed.getD i false = false ∧ ∀ j, j < i → listed.getD j false = true := by
          intro k
          induction k with
          | zero => intro i hik hi hl; exact ⟨i, hi, hl, fun j hj => by omega⟩
          | succ k ihk =>
            intro i hik hi hl
            by_cases h : ∃ j, j < i ∧ listed.getD j false = false
            · obtain ⟨j, hj, hjl⟩ := h
              exact ihk j (by omega) (by omega) hjl
            · refine ⟨i, hi, hl, fun j hj => ?_⟩
              cases hh : listed.getD j false with
              | true => rfl
              | false => exact absurd ⟨j, hj, hh⟩ h
        exact this i i (Nat.le_refl _) hi hl
      obtain ⟨i₀, hi₀, hun₀, hbelow⟩ := hex
      have hi₀s : i₀ < listed.size := by rw [inv.size]; simp; omega
      have hl₀ : listed.getD i₀ true = false := getD_in hi₀s hun₀
      have hready₀ : i₀ ∈ Region.ready .any l.toArray listed := by
        have ho : l[i₀]? = some l[i₀] := List.getElem?_eq_getElem (by omega)
        refine mem_ready.2 ⟨hl₀, l[i₀], by simp, fun e he hb => hbelow _ ((hback' i₀ _ ho).1 e he hb)⟩
      rw [show f + 1 + (l.length - n) = f + (l.length - n) + 1 by omega]
      refine ⟨fun h => (by rw [h] at hready₀; cases hready₀), fun i hi => ?_⟩
      have hin : i < n := by
        rcases Nat.lt_or_ge i n with h | h
        · exact h
        · exact absurd hi (tail_waits hs hc (by simpa using hn) inv _ i₀ rfl hi₀ hl₀ i h)
      obtain ⟨hiun, o, ho, hall⟩ := mem_ready.1 hi
      have ho' : l[i]? = some o := by simpa using ho
      unfold wpOp
      simp only [ho]
      have hgv : ∀ j b, o.guard = some (j, b) → yielded l.toArray a.tmps j = some (if sk i then !b else b) := by
        intro j b hg
        obtain ⟨hji, ⟨e, he, hb, hon⟩, oj, dj, hoj, hdj⟩ := (hback' i o ho').2 j b hg
        have hl := hall e he hb
        rw [hon] at hl
        have hv := hgd i o j b hin ho' hg _ _ (hD j oj dj (by omega) hoj hl hdj)
        have hsz' : dj < a.tmps.size := by rw [hO.size]; exact hsz j oj dj (by omega) hoj hdj
        have : a.tmps[dj]? = some (.bool (if sk i then !b else b)) := by
          unfold slotOf at hv
          rw [Array.getElem?_eq_getElem hsz'] at hv ⊢
          simpa using hv
        simp [yielded, hoj, hdj, this]
      have hcount : ((List.range n).filter fun i_1 => !(listed.setIfInBounds i true).getD i_1 false).length = f := by
        have hiun' : listed.getD i false = false := getD_both hiun
        have his : i < listed.size := by rw [inv.size]; simp; omega
        have e1 : ((List.range n).filter fun j => !(listed.setIfInBounds i true).getD j false) = ((List.range n).filter fun j => !listed.getD j false).filter (fun j => decide (j ≠ i)) := by
          rw [List.filter_filter]
          apply List.filter_congr
          intro j _
          by_cases hji : j = i
          · subst hji; simp [his]
          · rw [getD_set_ne false (Ne.symm hji)]; simp [hji]
        rw [e1]
        have hnd : ((List.range n).filter fun j => !listed.getD j false).Nodup := List.nodup_range.filter _
        have hmem : i ∈ ((List.range n).filter fun j => !listed.getD j false) := List.mem_filter.2 ⟨List.mem_range.2 hin, by simp [hiun']⟩
        have := filter_ne_length i _ hnd hmem
        omega
      cases hski : sk i with
      | true =>
        have hw : ¬ Region.wanted o (yielded l.toArray a.tmps) = true := by
          unfold Region.wanted
          cases hg : o.guard with
          | none => exact absurd hg (hsk i o hin ho' hski)
          | some jb =>
            obtain ⟨j, b⟩ := jb
            have := hgv j b hg
            rw [hski] at this
            simp [this]
        rw [if_neg hw]
        have hOut : Outer l n a₀ (a.put o.dst undef) := by
          refine ⟨?_, ?_, fun t ht => ?_⟩
          · cases hd : o.dst <;> simp [Act.put, hO.defers]
          · cases hd : o.dst <;> simp [Act.put, hO.size]
          · cases hd : o.dst with
            | none => simpa [Act.put] using hO.same t ht
            | some d =>
              have hne : d ≠ t := fun h => ht i o hin ho' (by rw [hd, h])
              simp only [Act.put]
              rw [Array.getElem?_setIfInBounds_ne hne]
              exact hO.same t ht
        refine ih _ _ _ (inv.set hi hin) hcount hGW hOut ?_
        intro j oj d hj hoj hlj hd
        by_cases hji : j = i
        · subst hji
          exact hDsk _ _ _ hski
        · rw [getD_set_ne false (Ne.symm hji)] at hlj
          have hold := hD j oj d hj hoj hlj hd
          cases hdo : o.dst with
          | none => simpa [Act.put] using hold
          | some d' =>
            have hne : d ≠ d' := fun h => hdst' j i oj o d hj hin hji hoj ho' hd (by rw [hdo, h])
            rw [slot_put_other hne]
            exact hold
      | false =>
        have hst := hstep i o hin ho' hski listed a W (by rw [inv.size]; simp) hiun hGW hO (fun j oj d hj hoj hd ⟨e, he, hb, hon⟩ => hD j oj d hj hoj (by rw [← hon]; exact hall e he hb) hd)
        have hw : Region.wanted o (yielded l.toArray a.tmps) = true := by
          unfold Region.wanted
          cases hg : o.guard with
          | none => rfl
          | some jb =>
            obtain ⟨j, b⟩ := jb
            have := hgv j b hg
            rw [hski] at this
            simp [this]
        rw [if_pos hw]
        refine .inl (Oper.wp_mono ?_ hst)
        rintro a' W' ⟨v, rfl, hDv, hRv, hGv⟩
        have hOut : Outer l n a₀ (a.put o.dst v) := by
          refine ⟨?_, ?_, fun t ht => ?_⟩
          · cases hd : o.dst <;> simp [Act.put, hO.defers]
          · cases hd : o.dst <;> simp [Act.put, hO.size]
          · cases hd : o.dst with
            | none => simpa [Act.put] using hO.same t ht
            | some d =>
              have hne : d ≠ t := fun h => ht i o hin ho' (by rw [hd, h])
              simp only [Act.put]
              rw [Array.getElem?_setIfInBounds_ne hne]
              exact hO.same t ht
        refine ih _ _ _ (inv.set hi hin) hcount hGv hOut ?_
        intro j oj d hj hoj hlj hd
        by_cases hji : j = i
        · subst hji
          have : oj = o := Option.some.inj (hoj.symm.trans ho')
          subst this
          have hds : d < a.tmps.size := by rw [hO.size]; exact hsz j oj d hj hoj hd
          rw [hd, slot_put_same hds]
          exact hDv
        · rw [getD_set_ne false (Ne.symm hji)] at hlj
          have hold := hDs i j _ W W' hin hji (hD j oj d hj hoj hlj hd) hRv
          cases hdo : o.dst with
          | none => simpa [Act.put] using hold
          | some d' =>
            have hne : d ≠ d' := fun h => hdst' j i oj o d hj hin hji hoj ho' hd (by rw [hdo, h])
            rw [slot_put_other hne]
            exact hold
  have inv0 : HeadInv .any l.toArray n (Array.replicate l.toArray.size false) :=
    ⟨by simp, fun j oj _ hl => (by rw [getD_replicate_false] at hl; cases hl), fun t _ ht => getD_in (by simpa using ht) (getD_replicate_false _ _)⟩
  have := key n _ a₀ w inv0 (by
    have : ((List.range n).filter fun i => !(Array.replicate l.toArray.size false).getD i false) = List.range n := List.filter_eq_self.2 (fun i _ => by rw [getD_replicate_false]; rfl)
    rw [this, List.length_range]) hG ⟨rfl, rfl, fun _ _ => rfl⟩ (fun j oj d _ _ hl => by rw [getD_replicate_false] at hl; cases hl)
  rw [show n + (l.length - n) = l.toArray.size by simp; omega] at this
  exact this

/-- The words say of each guard whether it lets its operation come. -/
def guardsS (D : Nat → Value → World → Prop) : List Bool → List Oper → Prop
  | _, [] => True
  | sks, o :: os => (match o.guard with
      | none => sks.headD false = false
      | some (j, b) => ∀ v W, D j v W → v = .bool (if sks.headD false then !b else b)) ∧ guardsS D sks.tail os
def skAt (sks : List Bool) (i : Nat) : Bool := sks[i]?.getD false
theorem skAt_zero (sks : List Bool) : skAt sks 0 = sks.headD false := by cases sks <;> rfl
theorem skAt_succ (sks : List Bool) (i : Nat) : skAt sks (i + 1) = skAt sks.tail i := by cases sks <;> rfl
theorem guardsS_get {D : Nat → Value → World → Prop} : ∀ (os : List Oper) (sks : List Bool), guardsS D sks os → ∀ (i : Nat) (o : Oper), os[i]? = some o → (skAt sks i = true → o.guard ≠ none) ∧ ∀ j b, o.guard = some (j, b) → ∀ v W, D j v W → v = .bool (if skAt sks i then !b else b)
  | [], _, _, i, o, h => by simp at h
  | x :: os, sks, hs, 0, o, h => by
    simp at h; subst h
    have := hs.1
    rw [skAt_zero]
    cases hg : x.guard with
    | none =>
      rw [hg] at this
      exact ⟨fun e => (by rw [this] at e; cases e), fun j b e => (by cases e)⟩
    | some jb =>
      rw [hg] at this
      exact ⟨fun _ e => (by cases e), fun j b e => (by cases e; exact this)⟩
  | x :: os, sks, hs, i + 1, o, h => by
    rw [skAt_succ]
    exact guardsS_get os sks.tail hs.2 i o (by simpa using h)
def stepsOkS (P : Program) (l : List Oper) (n : Nat) (Q : Exit → Act → World → Prop) (a₀ : Act) (w : World) (G : World → Prop) (Rl : World → World → Prop) (D : Nat → Value → World → Prop) : List Bool → Nat → List Oper → Prop
  | _, _, [] => True
  | sks, i, o :: os => (sks.headD false = true ∨ stepOk P l n Q a₀ w G Rl D i o) ∧ stepsOkS P l n Q a₀ w G Rl D sks.tail (i + 1) os
theorem stepsS_get {l : List Oper} {n : Nat} {Q : Exit → Act → World → Prop} {a₀ : Act} {w : World} {G : World → Prop} {Rl : World → World → Prop} {D : Nat → Value → World → Prop} : ∀ (os : List Oper) (sks : List Bool) (k : Nat), stepsOkS P l n Q a₀ w G Rl D sks k os → ∀ i o, os[i]? = some o → skAt sks i = true ∨ stepOk P l n Q a₀ w G Rl D (k + i) o
  | [], _, _, _, i, o, h => by simp at h
  | x :: os, sks, k, hs, 0, o, h => by
    simp at h; subst h
    rw [skAt_zero]
    exact hs.1
  | x :: os, sks, k, hs, i + 1, o, h => by
    have := stepsS_get os sks.tail (k + 1) hs.2 i o (by simpa using h)
    rw [skAt_succ, show k + (i + 1) = k + 1 + i by omega]
    exact this
/-- Words of operations that do not come say nothing. -/
def skWords : List Bool → List (Value → World → Prop) → Prop
  | _, [] => True
  | sks, p :: ps => (sks.headD false = true → ∀ v W, p v W) ∧ skWords sks.tail ps
theorem skWords_get : ∀ (ps : List (Value → World → Prop)) (sks : List Bool), skWords sks ps → ∀ i v W, skAt sks i = true → pickD ps i v W
  | [], _, _, _, _, _, _ => trivial
  | p :: ps, sks, hs, 0, v, W, h => hs.1 (by rw [← skAt_zero]; exact h) v W
  | p :: ps, sks, hs, i + 1, v, W, h => skWords_get ps sks.tail hs.2 i v W (by rw [← skAt_succ]; exact h)

/-- A region that draws its order, by a word for each operation of its head; some do not come. -/
theorem region_told_s {l : List Oper} (n : Nat) {Q : Exit → Act → World → Prop} {a₀ : Act} {w : World} (hB : relG l n = true) (hz : szOk a₀.tmps.size (l.take n) = true) (sks : List Bool)
    (G : World → Prop) (Rl : World → World → Prop) (ps : List (Value → World → Prop)) (hgd : guardsS (pickD ps) sks (l.take n)) (hws : skWords sks ps)
    (hRt : ∀ {A B C : World}, Rl A B → Rl B C → Rl A C) (hDs : ∀ i v W W', pickD ps i v W → Rl W W' → pickD ps i v W')
    (hG : G w) (hR0 : Rl w w) (hstep : stepsOkS P l n Q a₀ w G Rl (pickD ps) sks 0 (l.take n))
    (htail : ∀ W, G W → Rl w W → tailsOk (pickD ps) W (fun a => wpList P l.toArray Q (l.drop n) a W) 0 (l.take n) a₀) :
    wpAny P .any l.toArray Q l.toArray.size (Array.replicate l.toArray.size false) a₀ w := by
  have htake : ∀ (i : Nat) (o : Oper), i < n → l[i]? = some o → (l.take n)[i]? = some o := fun i o hi ho => by rw [List.getElem?_take, if_pos hi]; exact ho
  have hback : ∀ (i : Nat) (o : Oper), i < n → l[i]? = some o → ∀ e ∈ o.after, Region.binds .any e = true → e.on < n := by
    have hB' := hB
    simp only [relG, Bool.and_eq_true, decide_eq_true_eq] at hB'
    obtain ⟨⟨⟨⟨⟨_, _⟩, _⟩, hback⟩, _⟩, _⟩ := hB'
    intro i o hi ho e he hbd
    have := List.all_eq_true.1 hback i (List.mem_range.2 (List.getElem?_eq_some_iff.1 ho).1)
    simp only [ho, Bool.and_eq_true, Array.all_eq_true_iff_forall_mem] at this
    have h2 : e.on < i := by simpa [hbd] using this.1 e he
    omega
  refine region_rel_s hB (skAt sks) (fun W => G W ∧ Rl w W) (fun _ => Rl) (pickD ps) (fun i o j b hi ho hg => (guardsS_get _ _ hgd i o (htake i o hi ho)).2 j b hg) (fun i o hi ho hs => (guardsS_get _ _ hgd i o (htake i o hi ho)).1 hs) (fun i v W hs => skWords_get ps sks hws i v W hs) (fun _ j v W W' _ _ => hDs j v W W') (fun i o d hi ho hd => sz_of _ hz i o d (htake i o hi ho) hd) ⟨hG, hR0⟩ ?_ ?_
  · rintro i o hi ho hski _ a W _ _ ⟨hGW, hRW⟩ hO hp
    have := stepsS_get _ _ _ hstep i o (htake i o hi ho)
    rw [Nat.zero_add] at this
    rcases this with h | this
    · rw [h] at hski; cases hski
    refine Oper.wp_mono ?_ (this a W hGW hRW hO (preds_of o (hback i o hi ho) hp))
    rintro a' W' ⟨v, h1, h2, h3, h4⟩
    exact ⟨v, h1, h2, h3, h4, hRt hRW h3⟩
  · rintro _ a W ⟨hGW, hRW⟩ hO hd
    have hh := heads_of (D := pickD ps) (a := a) (W := W) (l.take n) 0 fun j oj d hj hdd => by
      rw [List.getElem?_take] at hj
      split at hj
      · rename_i hjn
        rw [Nat.zero_add]
        exact hd j oj d hjn hj hdd
      · cases hj
    have := tails_filled _ _ _ hh (htail W hGW hRW)
    rwa [filled_eq hO] at this
end Go.Proofs.Yteonkhohloabfaa

/- LearnFault: the reference's error of readings. -/
namespace Go.Proofs.Yteonkhohloabfaa
open Go.RowKit

/-- The error of readings, on a valid ground with days. -/
def lnF (g : Gnd) (days : List Day) (l : List Rdg) : Int :=
  if 30 < l.length then 3 else if l.all (rdgB g.cells.length days.length) = true then (if knownB g days = true then 0 else 8) else 2
theorem take_all_succ {α : Type} {l : List α} {k : Nat} {c : α} (p : α → Bool) (h : l[k]? = some c) : (l.take (k + 1)).all p = ((l.take k).all p && p c) := by
  rw [List.take_add_one, h, List.all_append]
  simp
set_option maxRecDepth 100000 in
set_option maxHeartbeats 2000000 in
theorem learnFault_any (g : Gnd) (A : Option Addr) (ap : Nat) (days : List Day) (D : Option Addr) (dp : Nat) (l : List Rdg) (R : Option Addr) (rp : Nat) (w : World) (hn : g.cells.length ≤ 1000) (hm : days.length ≤ 1000) (hl : l.length ≤ 1000)
    (hc : Row cellL 7 w w.heap.size A g.cells) (hd : Row dayL 3 w w.heap.size D days) (hr : Row rdgL 4 w w.heap.size R l) :
    Calls Try.prog 44 #[gndV A ap g, .slice D days.length dp, .slice R l.length rp] w fun e w' => e = .returned (vi (lnF g days l)) ∧ newer w w' := by
  have HC := Lib.hid hc
  have HD := Lib.hid hd
  have HR := Lib.hid hr
  clear hc hd hr
  unfold lnF
  by_cases hlen : 30 < l.length
  · have hli : (30 : Int) < l.length := by omega
    rw [if_pos hlen]
    clear hlen
    go_enter Try.func44, Try.ntmps44
    go_wp2_with fail
    go_ret
    exact ⟨rfl, (Below.refl _ _).alloc (Nat.le_refl _) _⟩
  · have hli : ¬ ((30 : Int) < l.length) := by omega
    rw [if_neg hlen]
    clear hlen
    obtain ⟨er, her⟩ : ∃ er : Int, er = if l.all (rdgB g.cells.length days.length) = true then (if knownB g days = true then 0 else 8) else 2 := ⟨_, rfl⟩
    rw [← her]
    have HE := Lib.hid her
    clear her
    have hw1 : IntKind.i64.wrap ((g.cells.length : Int) - 1) = (g.cells.length : Int) - 1 := IntWalk.i64_in _ (by omega)
    have hw2 : IntKind.i64.wrap ((days.length : Int) - 1) = (days.length : Int) - 1 := IntWalk.i64_in _ (by omega)
    have HW := Lib.hid (And.intro hw1 hw2)
    clear hw1 hw2
    have HB := Lib.hid (And.intro ((Below.refl w.heap.size w).alloc (Nat.le_refl _) (.cells (gndC A ap g) 26)) (Whole.made w 26 (gndC A ap g)))
    go_enter Try.func44, Try.ntmps44
    go_wp2_with fail
    go_loopw [7] (fun s7 wr => ∃ k : Nat, k ≤ l.length ∧ s7 = .int .i64 k ∧ (Below w.heap.size w wr ∧ Whole wr w.heap.size 26 (gndC A ap g)) ∧ (l.take k).all (rdgB g.cells.length days.length) = true) (fun s7 _ => l.length - (intOf s7).toNat)
    case atStart => exact ⟨0, Nat.zero_le _, rfl, HB.out, rfl⟩
    case round =>
      obtain ⟨k, hk, rfl, hx, hall⟩ := hrel
      clear HB
      have HX := Lib.hid hx
      have HA := Lib.hid hall
      clear hall
      by_cases hlt : k < l.length
      · obtain ⟨d, hdk⟩ := get_of_lt hlt
        obtain ⟨b, off, rfl, hb, q0, q1, q2, q3⟩ := row4 (HR.out.below hx.1) hdk
        have hkn : (k : Int) < l.length := by omega
        have e0 := hx.2.at 0 rfl
        have HDK := Lib.hid hdk
        obtain ⟨hw1, hw2⟩ := HW.out
        clear hx hdk
        have HI1' : ∀ W, Calls Try.prog 27 #[vi d.cell, vi 0, vi ((g.cells.length : Int) - 1)] W fun e w' => e = .returned (.bool (inB d.cell 0 ((g.cells.length : Int) - 1))) ∧ W = w' := fun W => in_any _ _ _ W
        have HI2' : ∀ W, Calls Try.prog 27 #[vi d.day, vi 0, vi ((days.length : Int) - 1)] W fun e w' => e = .returned (.bool (inB d.day 0 ((days.length : Int) - 1))) ∧ W = w' := fun W => in_any _ _ _ W
        cases hb1 : inB d.cell 0 ((g.cells.length : Int) - 1) with
        | false =>
          rw [hb1] at HI1'
          have HI1 := Lib.hid HI1'
          have he : er = 2 := by
            rw [HE.out, if_neg]
            intro h
            have := List.all_eq_true.1 h d (List.mem_of_getElem? HDK.out)
            simp [rdgB, hb1] at this
          subst he
          clear HI1' HI2' hb1
          go_wp2_with fail
          refine wp_words (by kernel_rfl) (region_told_s 31 (by kernel_rfl) (by kernel_rfl) [false, false, false, false, false, false, false, false, false, false, false, false, true, true, true, true, true, true, true, true, true, true, false, false, true, true, true, true, true, true, true] (fun W => Below wr.heap.size wr W) newer [vIs (.slice (some ⟨b, off, none⟩) l.length rp), vIs (.int .i64 k), vIs (.pointer (some ⟨b, off + k * 4, none⟩)), vIs (.pointer (some ⟨b, off + k * 4, none⟩)), vIs (vi d.cell), vIs (.pointer (some ⟨w.heap.size, 0, none⟩)), vIs (.slice A g.cells.length ap), vIs (vi g.cells.length), vIs (vi ((g.cells.length : Int) - 1)), vIs (.bool false), vIs (.bool true), vIs (.bool true), fun _ _ => True, fun _ _ => True, fun _ _ => True, fun _ _ => True, fun _ _ => True, fun _ _ => True, fun _ _ => True, fun _ _ => True, fun _ _ => True, fun _ _ => True, vIs (.bool true), vIs (.bool true), fun _ _ => True, fun _ _ => True, fun _ _ => True, fun _ _ => True, fun _ _ => True, fun _ _ => True, fun _ _ => True] ⟨rfl, rfl, rfl, rfl, rfl, rfl, rfl, rfl, rfl, rfl, rfl, rfl, (fun _ _ h => h), (fun _ _ h => h), (fun _ _ h => h), (fun _ _ h => h), (fun _ _ h => h), (fun _ _ h => h), (fun _ _ h => h), (fun _ _ h => h), (fun _ _ h => h), (fun _ _ h => h), rfl, rfl, (fun _ _ h => h), (fun _ _ h => h), (fun _ _ h => h), (fun _ _ h => h), (fun _ _ h => h), (fun _ _ h => h), (fun _ _ h => h), trivial⟩ ⟨(fun h => absurd h (by decide)), (fun h => absurd h (by decide)), (fun h => absurd h (by decide)), (fun h => absurd h (by decide)), (fun h => absurd h (by decide)), (fun h => absurd h (by decide)), (fun h => absurd h (by decide)), (fun h => absurd h (by decide)), (fun h => absurd h (by decide)), (fun h => absurd h (by decide)), (fun h => absurd h (by decide)), (fun h => absurd h (by decide)), (fun _ _ _ => trivial), (fun _ _ _ => trivial), (fun _ _ _ => trivial), (fun _ _ _ => trivial), (fun _ _ _ => trivial), (fun _ _ _ => trivial), (fun _ _ _ => trivial), (fun _ _ _ => trivial), (fun _ _ _ => trivial), (fun _ _ _ => trivial), (fun h => absurd h (by decide)), (fun h => absurd h (by decide)), (fun _ _ _ => trivial), (fun _ _ _ => trivial), (fun _ _ _ => trivial), (fun _ _ _ => trivial), (fun _ _ _ => trivial), (fun _ _ _ => trivial), (fun _ _ _ => trivial), trivial⟩ (fun h k => newer_trans h k) (pickD_stable _ ⟨vIs_st, vIs_st, vIs_st, vIs_st, vIs_st, vIs_st, vIs_st, vIs_st, vIs_st, vIs_st, vIs_st, vIs_st, fun _ _ _ h _ => h, fun _ _ _ h _ => h, fun _ _ _ h _ => h, fun _ _ _ h _ => h, fun _ _ _ h _ => h, fun _ _ _ h _ => h, fun _ _ _ h _ => h, fun _ _ _ h _ => h, fun _ _ _ h _ => h, fun _ _ _ h _ => h, vIs_st, vIs_st, fun _ _ _ h _ => h, fun _ _ _ h _ => h, fun _ _ _ h _ => h, fun _ _ _ h _ => h, fun _ _ _ h _ => h, fun _ _ _ h _ => h, fun _ _ _ h _ => h, trivial⟩) (Below.refl _ wr).drew (Below.refl _ _) ?_ ?_)
          · refine ⟨.inr ?_, .inr ?_, .inr ?_, .inr ?_, .inr ?_, .inr ?_, .inr ?_, .inr ?_, .inr ?_, .inr ?_, .inr ?_, .inr ?_, .inl rfl, .inl rfl, .inl rfl, .inl rfl, .inl rfl, .inl rfl, .inl rfl, .inl rfl, .inl rfl, .inl rfl, .inr ?_, .inr ?_, .inl rfl, .inl rfl, .inl rfl, .inl rfl, .inl rfl, .inl rfl, .inl rfl, trivial⟩
            · intro a W hG hR hO hp
              have h2 := hO.slot 2 (by kernel_rfl)
              refine wp_yields (v := .slice (some ⟨b, off, none⟩) l.length rp) ?_ ⟨_, rfl, rfl, Below.refl _ _, hG⟩
              simp [slotOf] at h2
              simp [execOp, go_sem, h2]
            · intro a W hG hR hO hp
              have h7 := hO.slot 7 (by kernel_rfl)
              refine wp_yields (v := .int .i64 k) ?_ ⟨_, rfl, rfl, Below.refl _ _, hG⟩
              simp [slotOf] at h7
              simp [execOp, go_sem, h7]
            · intro a W hG hR hO hp
              have h20 : slotOf a 20 = .slice (some ⟨b, off, none⟩) l.length rp := hp.1
              have h21 : slotOf a 21 = .int .i64 k := hp.2.1
              refine wp_yields (v := .pointer (some ⟨b, off + k * 4, none⟩)) ?_ ⟨_, rfl, rfl, Below.refl _ _, hG⟩
              simp [slotOf] at h20 h21 hkn
              simp [execOp, go_sem, h20, h21, hkn]
            · intro a W hG hR hO hp
              have h22 : slotOf a 22 = .pointer (some ⟨b, off + k * 4, none⟩) := hp.1
              refine wp_yields (v := .pointer (some ⟨b, off + k * 4, none⟩)) ?_ ⟨_, rfl, rfl, Below.refl _ _, hG⟩
              simp [slotOf] at h22
              simp [execOp, go_sem, h22]
            · intro a W hG hR hO hp
              have h23 : slotOf a 23 = .pointer (some ⟨b, off + k * 4, none⟩) := hp.1
              have c0 := keep_cell q0 hG
              refine wp_yields (v := vi d.cell) ?_ ⟨_, rfl, rfl, Below.refl _ _, hG⟩
              simp [slotOf] at h23
              simp [execOp, go_sem, h23, c0]
            · intro a W hG hR hO hp
              have h3 := hO.slot 3 (by kernel_rfl)
              refine wp_yields (v := .pointer (some ⟨w.heap.size, 0, none⟩)) ?_ ⟨_, rfl, rfl, Below.refl _ _, hG⟩
              simp [slotOf] at h3
              simp [execOp, go_sem, h3]
            · intro a W hG hR hO hp
              have h25 : slotOf a 25 = .pointer (some ⟨w.heap.size, 0, none⟩) := hp.1
              have c0 := keep_cell e0 hG
              refine wp_yields (v := .slice A g.cells.length ap) ?_ ⟨_, rfl, rfl, Below.refl _ _, hG⟩
              simp [slotOf] at h25
              simp [execOp, go_sem, h25, c0]
            · intro a W hG hR hO hp
              have h26 : slotOf a 26 = .slice A g.cells.length ap := hp.1
              refine wp_yields (v := vi g.cells.length) ?_ ⟨_, rfl, rfl, Below.refl _ _, hG⟩
              simp [slotOf] at h26
              simp [go_sem, h26]
            · intro a W hG hR hO hp
              have h27 : slotOf a 27 = vi g.cells.length := hp.1
              refine wp_yields (v := vi ((g.cells.length : Int) - 1)) ?_ ⟨_, rfl, rfl, Below.refl _ _, hG⟩
              simp [slotOf] at h27
              simp [execOp, go_sem, h27, hw1]
            · intro a W hG hR hO hp
              have h24 : slotOf a 24 = vi d.cell := hp.1
              have h28 : slotOf a 28 = vi ((g.cells.length : Int) - 1) := hp.2.1
              refine wp_enters (f := 27) (args := #[vi d.cell, vi 0, vi ((g.cells.length : Int) - 1)]) ?_ ((HI1.out W).mono ?_)
              · simp [slotOf] at h24 h28
                simp [go_sem, h24, h28]
              · rintro e w' ⟨rfl, rfl⟩
                exact ⟨_, rfl, _, rfl, rfl, Below.refl _ _, hG⟩
            · intro a W hG hR hO hp
              have h29 : slotOf a 29 = .bool false := hp.1
              refine wp_yields (v := .bool true) ?_ ⟨_, rfl, rfl, Below.refl _ _, hG⟩
              simp [slotOf] at h29
              simp [execOp, go_sem, h29]
            · intro a W hG hR hO hp
              have h30 : slotOf a 30 = .bool true := hp.1
              refine wp_yields (v := .bool true) ?_ ⟨_, rfl, rfl, Below.refl _ _, hG⟩
              simp [slotOf] at h30
              simp [execOp, go_sem, h30]
            · intro a W hG hR hO hp
              have h31 : slotOf a 31 = .bool true := hp.1
              have h41 := hp.2.1
              refine wp_yields (v := .bool true) ?_ ⟨_, rfl, rfl, Below.refl _ _, hG⟩
              simp [slotOf] at h31
              simp [execOp, go_sem, h31]
            · intro a W hG hR hO hp
              have h42 : slotOf a 42 = .bool true := hp.1
              refine wp_yields (v := .bool true) ?_ ⟨_, rfl, rfl, Below.refl _ _, hG⟩
              simp [slotOf] at h42
              simp [execOp, go_sem, h42]
          · intro W hG hR
            rintro _ rfl _ rfl _ rfl _ rfl _ rfl _ rfl _ rfl _ rfl _ rfl _ rfl _ rfl _ rfl _ - _ - _ - _ - _ - _ - _ - _ - _ - _ - _ rfl _ rfl _ - _ - _ - _ - _ - _ - _ -
            change wpList _ _ _ _ _ _
            simp only [Act.put, List.setIfInBounds_toArray, List.set_cons_zero, List.set_cons_succ, List.drop_succ_cons, List.drop_zero]
            have HY := Lib.hid (below_next HX.out.1 hG)
            clear hG hR HX HE
            go_wp2_with fail
            go_ret
            exact ⟨rfl, HY.out⟩
        | true =>
          rw [hb1] at HI1'
          have HI1 := Lib.hid HI1'
          cases hb2 : inB d.day 0 ((days.length : Int) - 1) with
          | false =>
            rw [hb2] at HI2'
            have HI2 := Lib.hid HI2'
            have he : er = 2 := by
              rw [HE.out, if_neg]
              intro h
              have := List.all_eq_true.1 h d (List.mem_of_getElem? HDK.out)
              simp [rdgB, hb2] at this
            subst he
            clear HI1' HI2' hb1 hb2
            go_wp2_with fail
            refine wp_words (by kernel_rfl) (region_told_s 31 (by kernel_rfl) (by kernel_rfl) [false, false, false, false, false, false, false, false, false, false, false, false, false, false, false, false, false, false, false, false, false, false, false, false, true, true, true, true, true, true, true] (fun W => Below wr.heap.size wr W) newer [vIs (.slice (some ⟨b, off, none⟩) l.length rp), vIs (.int .i64 k), vIs (.pointer (some ⟨b, off + k * 4, none⟩)), vIs (.pointer (some ⟨b, off + k * 4, none⟩)), vIs (vi d.cell), vIs (.pointer (some ⟨w.heap.size, 0, none⟩)), vIs (.slice A g.cells.length ap), vIs (vi g.cells.length), vIs (vi ((g.cells.length : Int) - 1)), vIs (.bool true), vIs (.bool false), vIs (.bool false), vIs (.slice (some ⟨b, off, none⟩) l.length rp), vIs (.int .i64 k), vIs (.pointer (some ⟨b, off + k * 4, none⟩)), vIs (.pointer (some ⟨b, off + k * 4 + 1, none⟩)), vIs (vi d.day), vIs (.slice D days.length dp), vIs (vi days.length), vIs (vi ((days.length : Int) - 1)), vIs (.bool false), vIs (.bool true), vIs (.bool true), vIs (.bool true), fun _ _ => True, fun _ _ => True, fun _ _ => True, fun _ _ => True, fun _ _ => True, fun _ _ => True, fun _ _ => True] ⟨rfl, rfl, rfl, rfl, rfl, rfl, rfl, rfl, rfl, rfl, rfl, rfl, (fun _ _ h => h), (fun _ _ h => h), (fun _ _ h => h), (fun _ _ h => h), (fun _ _ h => h), (fun _ _ h => h), (fun _ _ h => h), (fun _ _ h => h), (fun _ _ h => h), (fun _ _ h => h), rfl, rfl, (fun _ _ h => h), (fun _ _ h => h), (fun _ _ h => h), (fun _ _ h => h), (fun _ _ h => h), (fun _ _ h => h), (fun _ _ h => h), trivial⟩ ⟨(fun h => absurd h (by decide)), (fun h => absurd h (by decide)), (fun h => absurd h (by decide)), (fun h => absurd h (by decide)), (fun h => absurd h (by decide)), (fun h => absurd h (by decide)), (fun h => absurd h (by decide)), (fun h => absurd h (by decide)), (fun h => absurd h (by decide)), (fun h => absurd h (by decide)), (fun h => absurd h (by decide)), (fun h => absurd h (by decide)), (fun h => absurd h (by decide)), (fun h => absurd h (by decide)), (fun h => absurd h (by decide)), (fun h => absurd h (by decide)), (fun h => absurd h (by decide)), (fun h => absurd h (by decide)), (fun h => absurd h (by decide)), (fun h => absurd h (by decide)), (fun h => absurd h (by decide)), (fun h => absurd h (by decide)), (fun h => absurd h (by decide)), (fun h => absurd h (by decide)), (fun _ _ _ => trivial), (fun _ _ _ => trivial), (fun _ _ _ => trivial), (fun _ _ _ => trivial), (fun _ _ _ => trivial), (fun _ _ _ => trivial), (fun _ _ _ => trivial), trivial⟩ (fun h k => newer_trans h k) (pickD_stable _ ⟨vIs_st, vIs_st, vIs_st, vIs_st, vIs_st, vIs_st, vIs_st, vIs_st, vIs_st, vIs_st, vIs_st, vIs_st, vIs_st, vIs_st, vIs_st, vIs_st, vIs_st, vIs_st, vIs_st, vIs_st, vIs_st, vIs_st, vIs_st, vIs_st, fun _ _ _ h _ => h, fun _ _ _ h _ => h, fun _ _ _ h _ => h, fun _ _ _ h _ => h, fun _ _ _ h _ => h, fun _ _ _ h _ => h, fun _ _ _ h _ => h, trivial⟩) (Below.refl _ wr).drew (Below.refl _ _) ?_ ?_)
            · refine ⟨.inr ?_, .inr ?_, .inr ?_, .inr ?_, .inr ?_, .inr ?_, .inr ?_, .inr ?_, .inr ?_, .inr ?_, .inr ?_, .inr ?_, .inr ?_, .inr ?_, .inr ?_, .inr ?_, .inr ?_, .inr ?_, .inr ?_, .inr ?_, .inr ?_, .inr ?_, .inr ?_, .inr ?_, .inl rfl, .inl rfl, .inl rfl, .inl rfl, .inl rfl, .inl rfl, .inl rfl, trivial⟩
              · intro a W hG hR hO hp
                have h2 := hO.slot 2 (by kernel_rfl)
                refine wp_yields (v := .slice (some ⟨b, off, none⟩) l.length rp) ?_ ⟨_, rfl, rfl, Below.refl _ _, hG⟩
                simp [slotOf] at h2
                simp [execOp, go_sem, h2]
              · intro a W hG hR hO hp
                have h7 := hO.slot 7 (by kernel_rfl)
                refine wp_yields (v := .int .i64 k) ?_ ⟨_, rfl, rfl, Below.refl _ _, hG⟩
                simp [slotOf] at h7
                simp [execOp, go_sem, h7]
              · intro a W hG hR hO hp
                have h20 : slotOf a 20 = .slice (some ⟨b, off, none⟩) l.length rp := hp.1
                have h21 : slotOf a 21 = .int .i64 k := hp.2.1
                refine wp_yields (v := .pointer (some ⟨b, off + k * 4, none⟩)) ?_ ⟨_, rfl, rfl, Below.refl _ _, hG⟩
                simp [slotOf] at h20 h21 hkn
                simp [execOp, go_sem, h20, h21, hkn]
              · intro a W hG hR hO hp
                have h22 : slotOf a 22 = .pointer (some ⟨b, off + k * 4, none⟩) := hp.1
                refine wp_yields (v := .pointer (some ⟨b, off + k * 4, none⟩)) ?_ ⟨_, rfl, rfl, Below.refl _ _, hG⟩
                simp [slotOf] at h22
                simp [execOp, go_sem, h22]
              · intro a W hG hR hO hp
                have h23 : slotOf a 23 = .pointer (some ⟨b, off + k * 4, none⟩) := hp.1
                have c0 := keep_cell q0 hG
                refine wp_yields (v := vi d.cell) ?_ ⟨_, rfl, rfl, Below.refl _ _, hG⟩
                simp [slotOf] at h23
                simp [execOp, go_sem, h23, c0]
              · intro a W hG hR hO hp
                have h3 := hO.slot 3 (by kernel_rfl)
                refine wp_yields (v := .pointer (some ⟨w.heap.size, 0, none⟩)) ?_ ⟨_, rfl, rfl, Below.refl _ _, hG⟩
                simp [slotOf] at h3
                simp [execOp, go_sem, h3]
              · intro a W hG hR hO hp
                have h25 : slotOf a 25 = .pointer (some ⟨w.heap.size, 0, none⟩) := hp.1
                have c0 := keep_cell e0 hG
                refine wp_yields (v := .slice A g.cells.length ap) ?_ ⟨_, rfl, rfl, Below.refl _ _, hG⟩
                simp [slotOf] at h25
                simp [execOp, go_sem, h25, c0]
              · intro a W hG hR hO hp
                have h26 : slotOf a 26 = .slice A g.cells.length ap := hp.1
                refine wp_yields (v := vi g.cells.length) ?_ ⟨_, rfl, rfl, Below.refl _ _, hG⟩
                simp [slotOf] at h26
                simp [go_sem, h26]
              · intro a W hG hR hO hp
                have h27 : slotOf a 27 = vi g.cells.length := hp.1
                refine wp_yields (v := vi ((g.cells.length : Int) - 1)) ?_ ⟨_, rfl, rfl, Below.refl _ _, hG⟩
                simp [slotOf] at h27
                simp [execOp, go_sem, h27, hw1]
              · intro a W hG hR hO hp
                have h24 : slotOf a 24 = vi d.cell := hp.1
                have h28 : slotOf a 28 = vi ((g.cells.length : Int) - 1) := hp.2.1
                refine wp_enters (f := 27) (args := #[vi d.cell, vi 0, vi ((g.cells.length : Int) - 1)]) ?_ ((HI1.out W).mono ?_)
                · simp [slotOf] at h24 h28
                  simp [go_sem, h24, h28]
                · rintro e w' ⟨rfl, rfl⟩
                  exact ⟨_, rfl, _, rfl, rfl, Below.refl _ _, hG⟩
              · intro a W hG hR hO hp
                have h29 : slotOf a 29 = .bool true := hp.1
                refine wp_yields (v := .bool false) ?_ ⟨_, rfl, rfl, Below.refl _ _, hG⟩
                simp [slotOf] at h29
                simp [execOp, go_sem, h29]
              · intro a W hG hR hO hp
                have h30 : slotOf a 30 = .bool false := hp.1
                refine wp_yields (v := .bool false) ?_ ⟨_, rfl, rfl, Below.refl _ _, hG⟩
                simp [slotOf] at h30
                simp [execOp, go_sem, h30]
              · intro a W hG hR hO hp
                have h2 := hO.slot 2 (by kernel_rfl)
                refine wp_yields (v := .slice (some ⟨b, off, none⟩) l.length rp) ?_ ⟨_, rfl, rfl, Below.refl _ _, hG⟩
                simp [slotOf] at h2
                simp [execOp, go_sem, h2]
              · intro a W hG hR hO hp
                have h7 := hO.slot 7 (by kernel_rfl)
                refine wp_yields (v := .int .i64 k) ?_ ⟨_, rfl, rfl, Below.refl _ _, hG⟩
                simp [slotOf] at h7
                simp [execOp, go_sem, h7]
              · intro a W hG hR hO hp
                have h32 : slotOf a 32 = .slice (some ⟨b, off, none⟩) l.length rp := hp.1
                have h33 : slotOf a 33 = .int .i64 k := hp.2.1
                refine wp_yields (v := .pointer (some ⟨b, off + k * 4, none⟩)) ?_ ⟨_, rfl, rfl, Below.refl _ _, hG⟩
                simp [slotOf] at h32 h33 hkn
                simp [execOp, go_sem, h32, h33, hkn]
              · intro a W hG hR hO hp
                have h34 : slotOf a 34 = .pointer (some ⟨b, off + k * 4, none⟩) := hp.1
                refine wp_yields (v := .pointer (some ⟨b, off + k * 4 + 1, none⟩)) ?_ ⟨_, rfl, rfl, Below.refl _ _, hG⟩
                simp [slotOf] at h34
                simp [execOp, go_sem, h34]
              · intro a W hG hR hO hp
                have h35 : slotOf a 35 = .pointer (some ⟨b, off + k * 4 + 1, none⟩) := hp.1
                have c0 := keep_cell q1 hG
                refine wp_yields (v := vi d.day) ?_ ⟨_, rfl, rfl, Below.refl _ _, hG⟩
                simp [slotOf] at h35
                simp [execOp, go_sem, h35, c0]
              · intro a W hG hR hO hp
                have h1 := hO.slot 1 (by kernel_rfl)
                refine wp_yields (v := .slice D days.length dp) ?_ ⟨_, rfl, rfl, Below.refl _ _, hG⟩
                simp [slotOf] at h1
                simp [execOp, go_sem, h1]
              · intro a W hG hR hO hp
                have h37 : slotOf a 37 = .slice D days.length dp := hp.1
                refine wp_yields (v := vi days.length) ?_ ⟨_, rfl, rfl, Below.refl _ _, hG⟩
                simp [slotOf] at h37
                simp [go_sem, h37]
              · intro a W hG hR hO hp
                have h38 : slotOf a 38 = vi days.length := hp.1
                refine wp_yields (v := vi ((days.length : Int) - 1)) ?_ ⟨_, rfl, rfl, Below.refl _ _, hG⟩
                simp [slotOf] at h38
                simp [execOp, go_sem, h38, hw2]
              · intro a W hG hR hO hp
                have h36 : slotOf a 36 = vi d.day := hp.1
                have h39 : slotOf a 39 = vi ((days.length : Int) - 1) := hp.2.1
                refine wp_enters (f := 27) (args := #[vi d.day, vi 0, vi ((days.length : Int) - 1)]) ?_ ((HI2.out W).mono ?_)
                · simp [slotOf] at h36 h39
                  simp [go_sem, h36, h39]
                · rintro e w' ⟨rfl, rfl⟩
                  exact ⟨_, rfl, _, rfl, rfl, Below.refl _ _, hG⟩
              · intro a W hG hR hO hp
                have h40 : slotOf a 40 = .bool false := hp.1
                refine wp_yields (v := .bool true) ?_ ⟨_, rfl, rfl, Below.refl _ _, hG⟩
                simp [slotOf] at h40
                simp [execOp, go_sem, h40]
              · intro a W hG hR hO hp
                have h31 : slotOf a 31 = .bool false := hp.1
                have h41 : slotOf a 41 = .bool true := hp.2.1
                refine wp_yields (v := .bool true) ?_ ⟨_, rfl, rfl, Below.refl _ _, hG⟩
                simp [slotOf] at h31 h41
                simp [execOp, go_sem, h31, h41]
              · intro a W hG hR hO hp
                have h42 : slotOf a 42 = .bool true := hp.1
                refine wp_yields (v := .bool true) ?_ ⟨_, rfl, rfl, Below.refl _ _, hG⟩
                simp [slotOf] at h42
                simp [execOp, go_sem, h42]
            · intro W hG hR
              rintro _ rfl _ rfl _ rfl _ rfl _ rfl _ rfl _ rfl _ rfl _ rfl _ rfl _ rfl _ rfl _ rfl _ rfl _ rfl _ rfl _ rfl _ rfl _ rfl _ rfl _ rfl _ rfl _ rfl _ rfl _ - _ - _ - _ - _ - _ - _ -
              change wpList _ _ _ _ _ _
              simp only [Act.put, List.setIfInBounds_toArray, List.set_cons_zero, List.set_cons_succ, List.drop_succ_cons, List.drop_zero]
              have HY := Lib.hid (below_next HX.out.1 hG)
              clear hG hR HX HE
              go_wp2_with fail
              go_ret
              exact ⟨rfl, HY.out⟩
          | true =>
            rw [hb2] at HI2'
            have HI2 := Lib.hid HI2'
            obtain ⟨u, hu⟩ : ∃ u, u = upB d.lo d.hi 100000 := ⟨_, rfl⟩
            have HI3' : ∀ W : World, Calls Try.prog 70 #[.agg #[vi d.lo, vi d.hi], vi 100000] W fun e w' => e = .returned (.bool (upB d.lo d.hi 100000)) ∧ W.alloc (.cells #[vi d.lo, vi d.hi] 24) = w' := fun W => upTo_any _ _ _ W
            rw [← hu] at HI3'
            have HI3 := Lib.hid HI3'
            have HU : Hid (rdgB g.cells.length days.length d = u) := Lib.hid (by simp [rdgB, hb1, hb2, hu])
            clear HI1' HI2' HI3' hb1 hb2 hu
            go_wp2_with fail
            refine wp_words (by kernel_rfl) (region_told_s 31 (by kernel_rfl) (by kernel_rfl) [false, false, false, false, false, false, false, false, false, false, false, false, false, false, false, false, false, false, false, false, false, false, false, false, false, false, false, false, false, false, false] (fun W => Below wr.heap.size wr W) newer [vIs (.slice (some ⟨b, off, none⟩) l.length rp), vIs (.int .i64 k), vIs (.pointer (some ⟨b, off + k * 4, none⟩)), vIs (.pointer (some ⟨b, off + k * 4, none⟩)), vIs (vi d.cell), vIs (.pointer (some ⟨w.heap.size, 0, none⟩)), vIs (.slice A g.cells.length ap), vIs (vi g.cells.length), vIs (vi ((g.cells.length : Int) - 1)), vIs (.bool true), vIs (.bool false), vIs (.bool false), vIs (.slice (some ⟨b, off, none⟩) l.length rp), vIs (.int .i64 k), vIs (.pointer (some ⟨b, off + k * 4, none⟩)), vIs (.pointer (some ⟨b, off + k * 4 + 1, none⟩)), vIs (vi d.day), vIs (.slice D days.length dp), vIs (vi days.length), vIs (vi ((days.length : Int) - 1)), vIs (.bool true), vIs (.bool false), vIs (.bool false), vIs (.bool false), vIs (.slice (some ⟨b, off, none⟩) l.length rp), vIs (.int .i64 k), vIs (.pointer (some ⟨b, off + k * 4, none⟩)), vIs (.pointer (some ⟨b, off + k * 4 + 2, none⟩)), vIs (.agg #[vi d.lo, vi d.hi]), vIs (.bool u), vIs (.bool (!u))] ⟨rfl, rfl, rfl, rfl, rfl, rfl, rfl, rfl, rfl, rfl, rfl, rfl, (fun _ _ h => h), (fun _ _ h => h), (fun _ _ h => h), (fun _ _ h => h), (fun _ _ h => h), (fun _ _ h => h), (fun _ _ h => h), (fun _ _ h => h), (fun _ _ h => h), (fun _ _ h => h), rfl, rfl, (fun _ _ h => h), (fun _ _ h => h), (fun _ _ h => h), (fun _ _ h => h), (fun _ _ h => h), (fun _ _ h => h), (fun _ _ h => h), trivial⟩ ⟨(fun h => absurd h (by decide)), (fun h => absurd h (by decide)), (fun h => absurd h (by decide)), (fun h => absurd h (by decide)), (fun h => absurd h (by decide)), (fun h => absurd h (by decide)), (fun h => absurd h (by decide)), (fun h => absurd h (by decide)), (fun h => absurd h (by decide)), (fun h => absurd h (by decide)), (fun h => absurd h (by decide)), (fun h => absurd h (by decide)), (fun h => absurd h (by decide)), (fun h => absurd h (by decide)), (fun h => absurd h (by decide)), (fun h => absurd h (by decide)), (fun h => absurd h (by decide)), (fun h => absurd h (by decide)), (fun h => absurd h (by decide)), (fun h => absurd h (by decide)), (fun h => absurd h (by decide)), (fun h => absurd h (by decide)), (fun h => absurd h (by decide)), (fun h => absurd h (by decide)), (fun h => absurd h (by decide)), (fun h => absurd h (by decide)), (fun h => absurd h (by decide)), (fun h => absurd h (by decide)), (fun h => absurd h (by decide)), (fun h => absurd h (by decide)), (fun h => absurd h (by decide)), trivial⟩ (fun h k => newer_trans h k) (pickD_stable _ ⟨vIs_st, vIs_st, vIs_st, vIs_st, vIs_st, vIs_st, vIs_st, vIs_st, vIs_st, vIs_st, vIs_st, vIs_st, vIs_st, vIs_st, vIs_st, vIs_st, vIs_st, vIs_st, vIs_st, vIs_st, vIs_st, vIs_st, vIs_st, vIs_st, vIs_st, vIs_st, vIs_st, vIs_st, vIs_st, vIs_st, vIs_st, trivial⟩) (Below.refl _ wr).drew (Below.refl _ _) ?_ ?_)
            · refine ⟨.inr ?_, .inr ?_, .inr ?_, .inr ?_, .inr ?_, .inr ?_, .inr ?_, .inr ?_, .inr ?_, .inr ?_, .inr ?_, .inr ?_, .inr ?_, .inr ?_, .inr ?_, .inr ?_, .inr ?_, .inr ?_, .inr ?_, .inr ?_, .inr ?_, .inr ?_, .inr ?_, .inr ?_, .inr ?_, .inr ?_, .inr ?_, .inr ?_, .inr ?_, .inr ?_, .inr ?_, trivial⟩
              · intro a W hG hR hO hp
                have h2 := hO.slot 2 (by kernel_rfl)
                refine wp_yields (v := .slice (some ⟨b, off, none⟩) l.length rp) ?_ ⟨_, rfl, rfl, Below.refl _ _, hG⟩
                simp [slotOf] at h2
                simp [execOp, go_sem, h2]
              · intro a W hG hR hO hp
                have h7 := hO.slot 7 (by kernel_rfl)
                refine wp_yields (v := .int .i64 k) ?_ ⟨_, rfl, rfl, Below.refl _ _, hG⟩
                simp [slotOf] at h7
                simp [execOp, go_sem, h7]
              · intro a W hG hR hO hp
                have h20 : slotOf a 20 = .slice (some ⟨b, off, none⟩) l.length rp := hp.1
                have h21 : slotOf a 21 = .int .i64 k := hp.2.1
                refine wp_yields (v := .pointer (some ⟨b, off + k * 4, none⟩)) ?_ ⟨_, rfl, rfl, Below.refl _ _, hG⟩
                simp [slotOf] at h20 h21 hkn
                simp [execOp, go_sem, h20, h21, hkn]
              · intro a W hG hR hO hp
                have h22 : slotOf a 22 = .pointer (some ⟨b, off + k * 4, none⟩) := hp.1
                refine wp_yields (v := .pointer (some ⟨b, off + k * 4, none⟩)) ?_ ⟨_, rfl, rfl, Below.refl _ _, hG⟩
                simp [slotOf] at h22
                simp [execOp, go_sem, h22]
              · intro a W hG hR hO hp
                have h23 : slotOf a 23 = .pointer (some ⟨b, off + k * 4, none⟩) := hp.1
                have c0 := keep_cell q0 hG
                refine wp_yields (v := vi d.cell) ?_ ⟨_, rfl, rfl, Below.refl _ _, hG⟩
                simp [slotOf] at h23
                simp [execOp, go_sem, h23, c0]
              · intro a W hG hR hO hp
                have h3 := hO.slot 3 (by kernel_rfl)
                refine wp_yields (v := .pointer (some ⟨w.heap.size, 0, none⟩)) ?_ ⟨_, rfl, rfl, Below.refl _ _, hG⟩
                simp [slotOf] at h3
                simp [execOp, go_sem, h3]
              · intro a W hG hR hO hp
                have h25 : slotOf a 25 = .pointer (some ⟨w.heap.size, 0, none⟩) := hp.1
                have c0 := keep_cell e0 hG
                refine wp_yields (v := .slice A g.cells.length ap) ?_ ⟨_, rfl, rfl, Below.refl _ _, hG⟩
                simp [slotOf] at h25
                simp [execOp, go_sem, h25, c0]
              · intro a W hG hR hO hp
                have h26 : slotOf a 26 = .slice A g.cells.length ap := hp.1
                refine wp_yields (v := vi g.cells.length) ?_ ⟨_, rfl, rfl, Below.refl _ _, hG⟩
                simp [slotOf] at h26
                simp [go_sem, h26]
              · intro a W hG hR hO hp
                have h27 : slotOf a 27 = vi g.cells.length := hp.1
                refine wp_yields (v := vi ((g.cells.length : Int) - 1)) ?_ ⟨_, rfl, rfl, Below.refl _ _, hG⟩
                simp [slotOf] at h27
                simp [execOp, go_sem, h27, hw1]
              · intro a W hG hR hO hp
                have h24 : slotOf a 24 = vi d.cell := hp.1
                have h28 : slotOf a 28 = vi ((g.cells.length : Int) - 1) := hp.2.1
                refine wp_enters (f := 27) (args := #[vi d.cell, vi 0, vi ((g.cells.length : Int) - 1)]) ?_ ((HI1.out W).mono ?_)
                · simp [slotOf] at h24 h28
                  simp [go_sem, h24, h28]
                · rintro e w' ⟨rfl, rfl⟩
                  exact ⟨_, rfl, _, rfl, rfl, Below.refl _ _, hG⟩
              · intro a W hG hR hO hp
                have h29 : slotOf a 29 = .bool true := hp.1
                refine wp_yields (v := .bool false) ?_ ⟨_, rfl, rfl, Below.refl _ _, hG⟩
                simp [slotOf] at h29
                simp [execOp, go_sem, h29]
              · intro a W hG hR hO hp
                have h30 : slotOf a 30 = .bool false := hp.1
                refine wp_yields (v := .bool false) ?_ ⟨_, rfl, rfl, Below.refl _ _, hG⟩
                simp [slotOf] at h30
                simp [execOp, go_sem, h30]
              · intro a W hG hR hO hp
                have h2 := hO.slot 2 (by kernel_rfl)
                refine wp_yields (v := .slice (some ⟨b, off, none⟩) l.length rp) ?_ ⟨_, rfl, rfl, Below.refl _ _, hG⟩
                simp [slotOf] at h2
                simp [execOp, go_sem, h2]
              · intro a W hG hR hO hp
                have h7 := hO.slot 7 (by kernel_rfl)
                refine wp_yields (v := .int .i64 k) ?_ ⟨_, rfl, rfl, Below.refl _ _, hG⟩
                simp [slotOf] at h7
                simp [execOp, go_sem, h7]
              · intro a W hG hR hO hp
                have h32 : slotOf a 32 = .slice (some ⟨b, off, none⟩) l.length rp := hp.1
                have h33 : slotOf a 33 = .int .i64 k := hp.2.1
                refine wp_yields (v := .pointer (some ⟨b, off + k * 4, none⟩)) ?_ ⟨_, rfl, rfl, Below.refl _ _, hG⟩
                simp [slotOf] at h32 h33 hkn
                simp [execOp, go_sem, h32, h33, hkn]
              · intro a W hG hR hO hp
                have h34 : slotOf a 34 = .pointer (some ⟨b, off + k * 4, none⟩) := hp.1
                refine wp_yields (v := .pointer (some ⟨b, off + k * 4 + 1, none⟩)) ?_ ⟨_, rfl, rfl, Below.refl _ _, hG⟩
                simp [slotOf] at h34
                simp [execOp, go_sem, h34]
              · intro a W hG hR hO hp
                have h35 : slotOf a 35 = .pointer (some ⟨b, off + k * 4 + 1, none⟩) := hp.1
                have c0 := keep_cell q1 hG
                refine wp_yields (v := vi d.day) ?_ ⟨_, rfl, rfl, Below.refl _ _, hG⟩
                simp [slotOf] at h35
                simp [execOp, go_sem, h35, c0]
              · intro a W hG hR hO hp
                have h1 := hO.slot 1 (by kernel_rfl)
                refine wp_yields (v := .slice D days.length dp) ?_ ⟨_, rfl, rfl, Below.refl _ _, hG⟩
                simp [slotOf] at h1
                simp [execOp, go_sem, h1]
              · intro a W hG hR hO hp
                have h37 : slotOf a 37 = .slice D days.length dp := hp.1
                refine wp_yields (v := vi days.length) ?_ ⟨_, rfl, rfl, Below.refl _ _, hG⟩
                simp [slotOf] at h37
                simp [go_sem, h37]
              · intro a W hG hR hO hp
                have h38 : slotOf a 38 = vi days.length := hp.1
                refine wp_yields (v := vi ((days.length : Int) - 1)) ?_ ⟨_, rfl, rfl, Below.refl _ _, hG⟩
                simp [slotOf] at h38
                simp [execOp, go_sem, h38, hw2]
              · intro a W hG hR hO hp
                have h36 : slotOf a 36 = vi d.day := hp.1
                have h39 : slotOf a 39 = vi ((days.length : Int) - 1) := hp.2.1
                refine wp_enters (f := 27) (args := #[vi d.day, vi 0, vi ((days.length : Int) - 1)]) ?_ ((HI2.out W).mono ?_)
                · simp [slotOf] at h36 h39
                  simp [go_sem, h36, h39]
                · rintro e w' ⟨rfl, rfl⟩
                  exact ⟨_, rfl, _, rfl, rfl, Below.refl _ _, hG⟩
              · intro a W hG hR hO hp
                have h40 : slotOf a 40 = .bool true := hp.1
                refine wp_yields (v := .bool false) ?_ ⟨_, rfl, rfl, Below.refl _ _, hG⟩
                simp [slotOf] at h40
                simp [execOp, go_sem, h40]
              · intro a W hG hR hO hp
                have h31 : slotOf a 31 = .bool false := hp.1
                have h41 : slotOf a 41 = .bool false := hp.2.1
                refine wp_yields (v := .bool false) ?_ ⟨_, rfl, rfl, Below.refl _ _, hG⟩
                simp [slotOf] at h31 h41
                simp [execOp, go_sem, h31, h41]
              · intro a W hG hR hO hp
                have h42 : slotOf a 42 = .bool false := hp.1
                refine wp_yields (v := .bool false) ?_ ⟨_, rfl, rfl, Below.refl _ _, hG⟩
                simp [slotOf] at h42
                simp [execOp, go_sem, h42]
              · intro a W hG hR hO hp
                have h2 := hO.slot 2 (by kernel_rfl)
                refine wp_yields (v := .slice (some ⟨b, off, none⟩) l.length rp) ?_ ⟨_, rfl, rfl, Below.refl _ _, hG⟩
                simp [slotOf] at h2
                simp [execOp, go_sem, h2]
              · intro a W hG hR hO hp
                have h7 := hO.slot 7 (by kernel_rfl)
                refine wp_yields (v := .int .i64 k) ?_ ⟨_, rfl, rfl, Below.refl _ _, hG⟩
                simp [slotOf] at h7
                simp [execOp, go_sem, h7]
              · intro a W hG hR hO hp
                have h44 : slotOf a 44 = .slice (some ⟨b, off, none⟩) l.length rp := hp.1
                have h45 : slotOf a 45 = .int .i64 k := hp.2.1
                refine wp_yields (v := .pointer (some ⟨b, off + k * 4, none⟩)) ?_ ⟨_, rfl, rfl, Below.refl _ _, hG⟩
                simp [slotOf] at h44 h45 hkn
                simp [execOp, go_sem, h44, h45, hkn]
              · intro a W hG hR hO hp
                have h46 : slotOf a 46 = .pointer (some ⟨b, off + k * 4, none⟩) := hp.1
                refine wp_yields (v := .pointer (some ⟨b, off + k * 4 + 2, none⟩)) ?_ ⟨_, rfl, rfl, Below.refl _ _, hG⟩
                simp [slotOf] at h46
                simp [execOp, go_sem, h46]
              · intro a W hG hR hO hp
                have h47 : slotOf a 47 = .pointer (some ⟨b, off + k * 4 + 2, none⟩) := hp.1
                have c0 := keep_cell q2 hG
                have c1 := keep_cell q3 hG
                refine wp_yields (v := .agg #[vi d.lo, vi d.hi]) ?_ ⟨_, rfl, rfl, Below.refl _ _, hG⟩
                simp [slotOf] at h47
                simp [execOp, go_sem, h47, c0, c1]
              · intro a W hG hR hO hp
                have h48 : slotOf a 48 = .agg #[vi d.lo, vi d.hi] := hp.1
                refine wp_enters (f := 70) (args := #[.agg #[vi d.lo, vi d.hi], vi 100000]) ?_ ((HI3.out W).mono ?_)
                · simp [slotOf] at h48
                  simp [go_sem, h48]
                · rintro e w' ⟨rfl, rfl⟩
                  exact ⟨_, rfl, _, rfl, rfl, (Below.refl _ _).alloc (Nat.le_refl _) _, hG.alloc hG.size _⟩
              · intro a W hG hR hO hp
                have h49 : slotOf a 49 = .bool u := hp.1
                refine wp_yields (v := .bool (!u)) ?_ ⟨_, rfl, rfl, Below.refl _ _, hG⟩
                simp [slotOf] at h49
                simp [execOp, go_sem, h49]
            · intro W hG hR
              rintro _ rfl _ rfl _ rfl _ rfl _ rfl _ rfl _ rfl _ rfl _ rfl _ rfl _ rfl _ rfl _ rfl _ rfl _ rfl _ rfl _ rfl _ rfl _ rfl _ rfl _ rfl _ rfl _ rfl _ rfl _ rfl _ rfl _ rfl _ rfl _ rfl _ rfl _ rfl
              change wpList _ _ _ _ _ _
              simp only [Act.put, List.setIfInBounds_toArray, List.set_cons_zero, List.set_cons_succ, List.drop_succ_cons, List.drop_zero]
              have HY := Lib.hid (And.intro (below_next HX.out.1 hG) (HX.out.2.below hG HX.out.2.lt))
              clear hG hR HX q0 q1 q2 q3 e0
              cases u with
              | false =>
                have he : er = 2 := by
                  rw [HE.out, if_neg]
                  intro h
                  have := List.all_eq_true.1 h d (List.mem_of_getElem? HDK.out)
                  rw [HU.out] at this
                  cases this
                subst he
                go_wp2_with fail
                go_ret
                exact ⟨rfl, HY.out.1⟩
              | true =>
                go_wp2_with fail
                go_roundw
                case rel => exact ⟨k + 1, by omega, rfl, HY.out, by rw [take_all_succ _ HDK.out, HA.out, HU.out]; rfl⟩
                case measure => simp [intOf]; omega
      · have hke : k = l.length := by omega
        subst hke
        have he : er = if knownB g days = true then 0 else 8 := by
          have := HA.out
          rw [List.take_length] at this
          rw [HE.out, if_pos this]
        have HE2 := Lib.hid he
        have s0 := hx.2.at 1 rfl
        have s1 := hx.2.at 2 rfl
        clear HE HA he hlt hx hk
        go_wp2_with fail
        go_loopw [8, 9] (fun s8 s9 wr => ∃ k : Nat, k ≤ g.cells.length ∧ s9 = .int .i64 k ∧ s8 = .bool ((g.slo == g.shi) && (g.cells.take k).all fun c => c.lo == c.hi) ∧ (Below w.heap.size w wr ∧ Whole wr w.heap.size 26 (gndC A ap g))) (fun _ s9 _ => g.cells.length - (intOf s9).toNat)
        case atStart => exact ⟨0, Nat.zero_le _, rfl, by simp, HX.out⟩
        case round =>
          obtain ⟨k, hk, rfl, rfl, hx⟩ := hrel
          clear HX s0 s1
          have HX := Lib.hid hx
          have e0 := hx.2.at 0 rfl
          obtain ⟨bb, hbb⟩ : ∃ bb, bb = ((g.slo == g.shi) && (g.cells.take k).all fun c => c.lo == c.hi) := ⟨_, rfl⟩
          rw [← hbb]
          have HBB := Lib.hid hbb
          clear hbb
          by_cases hlt : k < g.cells.length
          · obtain ⟨c, hck⟩ := get_of_lt hlt
            obtain ⟨b, off, rfl, hb, q0, q1, _, _, _, _, _⟩ := row7 (HC.out.below hx.1) hck
            have hkn : (k : Int) < g.cells.length := by omega
            have HCK := Lib.hid hck
            clear hx hck
            cases bb with
            | false =>
              go_wp2_with fail
              go_quiet (fail)
              go_wp2_with fail
              go_roundw
              case rel => exact ⟨k + 1, by omega, rfl, by rw [take_all_succ _ HCK.out, ← Bool.and_assoc, ← HBB.out]; rfl, below_next HX.out.1 (newer_drewN _ _), HX.out.2.below (newer_drewN _ _) HX.out.2.lt⟩
              case measure => simp [intOf]; omega
            | true =>
              go_wp2_with fail
              go_quiet (fail)
              go_wp2_with fail
              go_roundw
              case rel => exact ⟨k + 1, by omega, rfl, by rw [take_all_succ _ HCK.out, ← Bool.and_assoc, ← HBB.out]; simp, below_next HX.out.1 (newer_drewN _ _), HX.out.2.below (newer_drewN _ _) HX.out.2.lt⟩
              case measure => simp [intOf]; omega
          · have hke : k = g.cells.length := by omega
            subst hke
            rw [List.take_length] at HBB
            clear hx hlt hk
            go_wp2_with fail
            go_loopw [8, 10] (fun s8 s10 wr => ∃ k : Nat, k ≤ days.length ∧ s10 = .int .i64 k ∧ s8 = .bool (bb && (days.take k).all fun c => c.lo == c.hi) ∧ (Below w.heap.size w wr ∧ Whole wr w.heap.size 26 (gndC A ap g))) (fun _ s10 _ => days.length - (intOf s10).toNat)
            case atStart => exact ⟨0, Nat.zero_le _, rfl, by simp, HX.out⟩
            case round =>
              obtain ⟨k, hk, rfl, rfl, hx⟩ := hrel
              clear HX e0
              have HX := Lib.hid hx
              obtain ⟨b2, hb2⟩ : ∃ b2, b2 = (bb && (days.take k).all fun c => c.lo == c.hi) := ⟨_, rfl⟩
              rw [← hb2]
              have HB2 := Lib.hid hb2
              clear hb2
              by_cases hlt : k < days.length
              · obtain ⟨c, hck⟩ := get_of_lt hlt
                obtain ⟨b, off, rfl, hb, q0, q1, _⟩ := row3 (HD.out.below hx.1) hck
                have hkn : (k : Int) < days.length := by omega
                have HCK := Lib.hid hck
                clear hx hck
                cases b2 with
                | false =>
                  go_wp2_with fail
                  go_quiet (fail)
                  go_wp2_with fail
                  go_roundw
                  case rel => exact ⟨k + 1, by omega, rfl, by rw [take_all_succ _ HCK.out, ← Bool.and_assoc, ← HB2.out]; rfl, below_next HX.out.1 (newer_drewN _ _), HX.out.2.below (newer_drewN _ _) HX.out.2.lt⟩
                  case measure => simp [intOf]; omega
                | true =>
                  go_wp2_with fail
                  go_quiet (fail)
                  go_wp2_with fail
                  go_roundw
                  case rel => exact ⟨k + 1, by omega, rfl, by rw [take_all_succ _ HCK.out, ← Bool.and_assoc, ← HB2.out]; simp, below_next HX.out.1 (newer_drewN _ _), HX.out.2.below (newer_drewN _ _) HX.out.2.lt⟩
                  case measure => simp [intOf]; omega
              · have hke : k = days.length := by omega
                subst hke
                rw [List.take_length] at HB2
                have he : er = if b2 = true then 0 else 8 := by rw [HE2.out, HB2.out, HBB.out]; rfl
                clear HE2 hx hlt hk HB2 HBB
                cases b2 with
                | false =>
                  subst he
                  go_wp2_with fail
                  go_ret
                  exact ⟨rfl, HX.out.1⟩
                | true =>
                  subst he
                  go_wp2_with fail
                  go_ret
                  exact ⟨rfl, HX.out.1⟩
end Go.Proofs.Yteonkhohloabfaa

/- Agrees: does a soak, with readings? -/
namespace Go.Proofs.Yteonkhohloabfaa
open Go.RowKit

/-- Does a soak agree with readings, where all else is known? -/
def agB (g : Gnd) (days : List Day) (soak : Int) (x : Rdg) : Bool := inB (lvL g days soak (x.cell, x.day)) x.lo x.hi
abbrev agC (g : Gnd) (days : List Day) (soak : Int) (L : Option Addr) (lp : Nat) (R : Option Addr) (rp : Nat) : Array Value := #[vi (endOf false g.slo g.shi), vi soak, .slice L g.cells.length lp, .slice R days.length rp]
/-- The truth's box of Agrees. -/
structure AgT (tb : Nat) (g : Gnd) (days : List Day) (soak : Int) (L : Option Addr) (lp : Nat) (R : Option Addr) (rp : Nat) (W : World) : Prop where
  tb : Whole W tb 47 (agC g days soak L lp R rp)
  hl : Row intL 1 W W.heap.size L (g.cells.map fun c => endOf false c.lo c.hi)
  hr : Row intL 1 W W.heap.size R (days.map fun d => endOf false d.lo d.hi)
section
variable {tb : Nat} {g : Gnd} {days : List Day} {soak : Int} {L : Option Addr} {lp : Nat} {R : Option Addr} {rp : Nat} {W W' : World}
theorem AgT.next (h : AgT tb g days soak L lp R rp W) (hb : newer W W') : AgT tb g days soak L lp R rp W' := ⟨h.tb.below hb h.tb.lt, (h.hl.below hb).more hb.size, (h.hr.below hb).more hb.size⟩
theorem AgT.made (hl : Row intL 1 W W.heap.size L (g.cells.map fun c => endOf false c.lo c.hi)) (hr : Row intL 1 W W.heap.size R (days.map fun d => endOf false d.lo d.hi)) :
    AgT W.heap.size g days soak L lp R rp (W.alloc (.cells (agC g days soak L lp R rp) 47)) := ⟨Whole.made _ _ _, row_alloc hl _, row_alloc hr _⟩
end
theorem refAfterS (g : Gnd) (A : Option Addr) (cp : Nat) (days : List Day) (D : Option Addr) (dp : Nat) (L : Option Addr) (lp : Nat) (R : Option Addr) (rp : Nat) (soak : Int) (hf : faultN g days = 0) (h0 : g.klo ≤ soak) (h1 : soak ≤ g.khi) (k : Nat) (hk : k ≤ days.length) (w : World)
    (hc : Row cellL 7 w w.heap.size A g.cells) (hd : Row dayL 3 w w.heap.size D days) (hL : Row intL 1 w w.heap.size L (g.cells.map fun c => endOf false c.lo c.hi)) (hR : Row intL 1 w w.heap.size R (days.map fun d => endOf false d.lo d.hi)) :
    Calls Try.prog 22 #[gndV A cp g, .slice D days.length dp, truthV (endOf false g.slo g.shi) soak L g.cells.length lp R days.length rp, .int .i64 (k : Int)] w (aftered w g.cells.length (stL g days soak k)) := by
  have := refAfter g A cp days D dp (endOf false g.slo g.shi) soak (g.cells.map fun c => endOf false c.lo c.hi) L lp (days.map fun d => endOf false d.lo d.hi) R rp (wayOk_soak hf h0 h1) (fault_cells hf).1 (List.length_map _) k hk w hc hd hL hR
  simp only [List.length_map] at this
  exact this
set_option maxRecDepth 100000 in
set_option maxHeartbeats 2000000 in
theorem agrees_any (g : Gnd) (A : Option Addr) (ap : Nat) (days : List Day) (D : Option Addr) (dp : Nat) (l : List Rdg) (X : Option Addr) (xp : Nat) (soak : Int) (w : World) (hf : faultN g days = 0) (hs0 : g.klo ≤ soak) (hs1 : soak ≤ g.khi) (hl : l.length ≤ 30) (hall : l.all (rdgB g.cells.length days.length) = true)
    (hc : Row cellL 7 w w.heap.size A g.cells) (hd : Row dayL 3 w w.heap.size D days) (hr : Row rdgL 4 w w.heap.size X l) :
    Calls Try.prog 45 #[gndV A ap g, .slice D days.length dp, .slice X l.length xp, vi soak] w fun e w' => e = .returned (.bool (l.all (agB g days soak))) ∧ newer w w' := by
  have hb8 := (wayOk_end false hf).few
  have hb30 := (wayOk_end false hf).many
  have HR := Lib.hid hr
  have H0 := Lib.hid (Lh.made (cp := ap) hc hd)
  have HALL := Lib.hid hall
  have HS := Lib.hid (And.intro hf (And.intro hs0 hs1))
  obtain ⟨er, her⟩ : ∃ er, er = l.all (agB g days soak) := ⟨_, rfl⟩
  rw [← her]
  have HE := Lib.hid her
  clear hc hd hr her hf hs0 hs1 hall
  go_enter Try.func45, Try.ntmps45
  go_wp2_with fail
  refine (refEnds false g A ap days D dp _ (by omega) (by omega) H0.out.hc H0.out.hd).mono ?_
  rintro e w1 ⟨L, lp, R, rp, rfl, hl1, hr1, hb, _, _⟩
  have H1 := Lib.hid (And.intro (H0.out.next hb) (And.intro hl1 hr1))
  clear hl1 hr1 hb H0
  go_wp2_with fail
  have HX : Hid (Lh w g A ap days D (w1.alloc (.cells (agC g days soak L lp R rp) 47)) ∧ AgT w1.heap.size g days soak L lp R rp (w1.alloc (.cells (agC g days soak L lp R rp) 47))) :=
    Lib.hid ⟨H1.out.1.alloc _, AgT.made H1.out.2.1 H1.out.2.2⟩
  clear H1
  go_loopw [10] (fun s10 wr => ∃ k : Nat, k ≤ l.length ∧ s10 = .int .i64 k ∧ (Lh w g A ap days D wr ∧ AgT w1.heap.size g days soak L lp R rp wr) ∧ (l.take k).all (agB g days soak) = true) (fun s10 _ => l.length - (intOf s10).toNat)
  case atStart => exact ⟨0, Nat.zero_le _, rfl, HX.out, rfl⟩
  case round =>
    obtain ⟨k, hk, rfl, hx, hag⟩ := hrel
    clear HX
    have HX := Lib.hid hx
    have HA := Lib.hid hag
    clear hag
    by_cases hlt : k < l.length
    · obtain ⟨d, hdk⟩ := get_of_lt hlt
      obtain ⟨b, off, rfl, hb, q0, q1, q2, q3⟩ := row4 (HR.out.below hx.1.below) hdk
      have hkn : (k : Int) < l.length := by omega
      have e0 := hx.1.gb.at 0 (v := .slice A g.cells.length ap) rfl
      have e1 := hx.1.gb.at 1 (v := vi g.slo) rfl
      have e2 := hx.1.gb.at 2 (v := vi g.shi) rfl
      have e3 := hx.1.gb.at 3 (v := vi g.klo) rfl
      have e4 := hx.1.gb.at 4 (v := vi g.khi) rfl
      have e5 := hx.1.gb.at 5 (v := vi g.melt) rfl
      have t0 := hx.2.tb.at 0 (v := vi (endOf false g.slo g.shi)) rfl
      have t1 := hx.2.tb.at 1 (v := vi soak) rfl
      have t2 := hx.2.tb.at 2 (v := .slice L g.cells.length lp) rfl
      have t3 := hx.2.tb.at 3 (v := .slice R days.length rp) rfl
      have HDK := Lib.hid hdk
      have hrd : rdgB g.cells.length days.length d = true := List.all_eq_true.1 HALL.out d (List.mem_of_getElem? hdk)
      simp only [rdgB, inB, Bool.and_eq_true, decide_eq_true_eq] at hrd
      obtain ⟨ci, hci⟩ := Int.eq_ofNat_of_zero_le hrd.1.1.1
      obtain ⟨di, hdi⟩ := Int.eq_ofNat_of_zero_le hrd.1.2.1
      have hcl : ci < g.cells.length := by omega
      have hdl : di < days.length := by omega
      have hcn : (ci : Int) < g.cells.length := by omega
      have hdw : IntKind.i64.wrap ((di : Int) + 1) = (di : Int) + 1 := IntWalk.i64_in _ (by omega)
      obtain ⟨bb, hbb⟩ : ∃ bb, bb = inB ((stL g days soak (di + 1)).f ci) d.lo d.hi := ⟨_, rfl⟩
      have HB : Hid (agB g days soak d = bb) := Lib.hid (by rw [hbb, agB, lvL, hci, hdi]; rfl)
      have HBB := Lib.hid hbb
      rw [hci] at q0
      rw [hdi] at q1
      clear hx hdk hrd hbb
      go_wp2_with fail
      refine wp_words (by kernel_rfl) (region_told 16 (by kernel_rfl) (by kernel_rfl) (fun W => Below wr.heap.size wr W) newer (pickD [vIs (gndV A ap g), vIs (.slice D days.length dp), vIs (truthV (endOf false g.slo g.shi) soak L g.cells.length lp R days.length rp), vIs (.slice (some ⟨b, off, none⟩) l.length xp), vIs (.int .i64 k), vIs (.pointer (some ⟨b, off + k * 4, none⟩)), vIs (.pointer (some ⟨b, off + k * 4 + 1, none⟩)), vIs (vi di), vIs (.int .i64 ((di : Int) + 1)), vAfter g.cells.length (stL g days soak (di + 1)), vAfter g.cells.length (stL g days soak (di + 1)), vLev g.cells.length (stL g days soak (di + 1)).f, vIs (vi (stL g days soak (di + 1)).left), vIs (vi (stL g days soak (di + 1)).snow), vLev g.cells.length (stL g days soak (di + 1)).f, vIs (vi (stL g days soak (di + 1)).left)]) (fun h k => newer_trans h k) (pickD_stable _ ⟨vIs_st, vIs_st, vIs_st, vIs_st, vIs_st, vIs_st, vIs_st, vIs_st, vIs_st, vAfter_st, vAfter_st, vLev_st, vIs_st, vIs_st, vLev_st, vIs_st, trivial⟩) (Below.refl _ wr).drew (Below.refl _ _) ?_ ?_)
      · refine ⟨?_, ?_, ?_, ?_, ?_, ?_, ?_, ?_, ?_, ?_, ?_, ?_, ?_, ?_, ?_, ?_, trivial⟩
        · intro a W hG hR hO hp
          have h4 := hO.slot 4 (by kernel_rfl)
          have c0 := keep_cell e0 hG
          have c1 := keep_cell e1 hG
          have c2 := keep_cell e2 hG
          have c3 := keep_cell e3 hG
          have c4 := keep_cell e4 hG
          have c5 := keep_cell e5 hG
          refine wp_yields (v := gndV A ap g) ?_ ⟨_, rfl, rfl, Below.refl _ _, hG⟩
          simp [slotOf] at h4
          simp [execOp, go_sem, h4, c0, c1, c2, c3, c4, c5]
        · intro a W hG hR hO hp
          have h1 := hO.slot 1 (by kernel_rfl)
          refine wp_yields (v := .slice D days.length dp) ?_ ⟨_, rfl, rfl, Below.refl _ _, hG⟩
          simp [slotOf] at h1
          simp [execOp, go_sem, h1]
        · intro a W hG hR hO hp
          have h9 := hO.slot 9 (by kernel_rfl)
          have c0 := keep_cell t0 hG
          have c1 := keep_cell t1 hG
          have c2 := keep_cell t2 hG
          have c3 := keep_cell t3 hG
          refine wp_yields (v := truthV (endOf false g.slo g.shi) soak L g.cells.length lp R days.length rp) ?_ ⟨_, rfl, rfl, Below.refl _ _, hG⟩
          simp [slotOf] at h9
          simp [execOp, go_sem, h9, c0, c1, c2, c3]
        · intro a W hG hR hO hp
          have h2 := hO.slot 2 (by kernel_rfl)
          refine wp_yields (v := .slice (some ⟨b, off, none⟩) l.length xp) ?_ ⟨_, rfl, rfl, Below.refl _ _, hG⟩
          simp [slotOf] at h2
          simp [execOp, go_sem, h2]
        · intro a W hG hR hO hp
          have h10 := hO.slot 10 (by kernel_rfl)
          refine wp_yields (v := .int .i64 k) ?_ ⟨_, rfl, rfl, Below.refl _ _, hG⟩
          simp [slotOf] at h10
          simp [execOp, go_sem, h10]
        · intro a W hG hR hO hp
          have h29 : slotOf a 29 = .slice (some ⟨b, off, none⟩) l.length xp := hp.1
          have h30 : slotOf a 30 = .int .i64 k := hp.2.1
          refine wp_yields (v := .pointer (some ⟨b, off + k * 4, none⟩)) ?_ ⟨_, rfl, rfl, Below.refl _ _, hG⟩
          simp [slotOf] at h29 h30 hkn
          simp [execOp, go_sem, h29, h30, hkn]
        · intro a W hG hR hO hp
          have h31 : slotOf a 31 = .pointer (some ⟨b, off + k * 4, none⟩) := hp.1
          refine wp_yields (v := .pointer (some ⟨b, off + k * 4 + 1, none⟩)) ?_ ⟨_, rfl, rfl, Below.refl _ _, hG⟩
          simp [slotOf] at h31
          simp [execOp, go_sem, h31]
        · intro a W hG hR hO hp
          have h32 : slotOf a 32 = .pointer (some ⟨b, off + k * 4 + 1, none⟩) := hp.1
          have c0 := keep_cell q1 hG
          refine wp_yields (v := vi di) ?_ ⟨_, rfl, rfl, Below.refl _ _, hG⟩
          simp [slotOf] at h32
          simp [execOp, go_sem, h32, c0]
        · intro a W hG hR hO hp
          have h33 : slotOf a 33 = vi di := hp.1
          refine wp_yields (v := .int .i64 ((di : Int) + 1)) ?_ ⟨_, rfl, rfl, Below.refl _ _, hG⟩
          simp [slotOf] at h33
          simp [execOp, go_sem, h33, hdw]
        · intro a W hG hR hO hp
          have h26 : slotOf a 26 = gndV A ap g := hp.1
          have h27 : slotOf a 27 = .slice D days.length dp := hp.2.1
          have h28 : slotOf a 28 = truthV (endOf false g.slo g.shi) soak L g.cells.length lp R days.length rp := hp.2.2.1
          have h34 : slotOf a 34 = .int .i64 ((di : Int) + 1) := hp.2.2.2.1
          have haf := refAfterS g A ap days D dp L lp R rp soak HS.out.1 HS.out.2.1 HS.out.2.2 (di + 1) (by omega) W (HX.out.1.next hG).hc (HX.out.1.next hG).hd (HX.out.2.next hG).hl (HX.out.2.next hG).hr
          rw [show ((di + 1 : Nat) : Int) = (di : Int) + 1 by omega] at haf
          refine wp_enters (f := 22) (args := #[gndV A ap g, .slice D days.length dp, truthV (endOf false g.slo g.shi) soak L g.cells.length lp R days.length rp, .int .i64 ((di : Int) + 1)]) ?_ (haf.mono ?_)
          · simp [slotOf] at h26 h27 h28 h34
            simp [go_sem, h26, h27, h28, h34]
          · rintro e w' ⟨Ax, cx, rfl, hr, hb⟩
            exact ⟨_, rfl, _, rfl, ⟨Ax, cx, rfl, hr⟩, hb, below_next hG hb⟩
        · intro a W hG hR hO hp
          have h35 := hp.1
          obtain ⟨Ax, cx, h35, hr⟩ := h35
          refine wp_yields (v := .tuple #[.slice Ax g.cells.length cx, vi (stL g days soak (di + 1)).left, vi (stL g days soak (di + 1)).snow]) ?_ ⟨_, rfl, ⟨Ax, cx, rfl, hr⟩, Below.refl _ _, hG⟩
          simp [slotOf] at h35
          simp [execOp, go_sem, h35]
        · intro a W hG hR hO hp
          have h25 := hp.1
          obtain ⟨Ax, cx, h25, hr⟩ := h25
          refine wp_yields (v := .slice Ax g.cells.length cx) ?_ ⟨_, rfl, ⟨Ax, cx, rfl, hr⟩, Below.refl _ _, hG⟩
          simp [slotOf] at h25
          simp [execOp, go_sem, h25]
        · intro a W hG hR hO hp
          have h25 := hp.1
          obtain ⟨Ax, cx, h25, hr⟩ := h25
          refine wp_yields (v := vi (stL g days soak (di + 1)).left) ?_ ⟨_, rfl, rfl, Below.refl _ _, hG⟩
          simp [slotOf] at h25
          simp [execOp, go_sem, h25]
        · intro a W hG hR hO hp
          have h25 := hp.1
          obtain ⟨Ax, cx, h25, hr⟩ := h25
          refine wp_yields (v := vi (stL g days soak (di + 1)).snow) ?_ ⟨_, rfl, rfl, Below.refl _ _, hG⟩
          simp [slotOf] at h25
          simp [execOp, go_sem, h25]
        · intro a W hG hR hO hp
          have h36 := hp.1
          obtain ⟨Ax, cx, h36, hr⟩ := h36
          refine wp_yields (v := .slice Ax g.cells.length cx) ?_ ⟨_, rfl, ⟨Ax, cx, rfl, hr⟩, Below.refl _ _, hG⟩
          simp [slotOf] at h36
          simp [execOp, go_sem, h36]
        · intro a W hG hR hO hp
          have h37 : slotOf a 37 = vi (stL g days soak (di + 1)).left := hp.1
          refine wp_yields (v := vi (stL g days soak (di + 1)).left) ?_ ⟨_, rfl, rfl, Below.refl _ _, hG⟩
          simp [slotOf] at h37
          simp [execOp, go_sem, h37]
      · intro wx hG hR
        rintro _ rfl _ rfl _ rfl _ rfl _ rfl _ rfl _ rfl _ rfl _ rfl _ ⟨_, _, rfl, _⟩ _ ⟨_, _, rfl, _⟩ _ ⟨_, _, rfl, _⟩ _ rfl _ rfl _ ⟨A3, cp3, rfl, hrow⟩ _ rfl
        change wpList _ _ _ _ _ _
        simp only [Act.put, List.setIfInBounds_toArray, List.set_cons_zero, List.set_cons_succ, List.drop_succ_cons, List.drop_zero]
        have HR1 := Lib.hid (And.intro (HX.out.1.next hG) (HX.out.2.next hG))
        have HY := Lib.hid hG
        have HRW := Lib.hid hrow
        obtain ⟨lb, lo, rfl, hlb, hlv⟩ := cells_of_row hrow hcl
        clear hG hR HX e0 e1 e2 e3 e4 e5 t0 t1 t2 t3 hrow
        have p0 := keep_cell q0 HY.out
        have p2 := keep_cell q2 HY.out
        have p3 := keep_cell q3 HY.out
        clear q0 q1 q2 q3
        go_wp2_with fail
        refine wp_words (by kernel_rfl) (region_told 14 (by kernel_rfl) (by kernel_rfl) (fun W => Below wx.heap.size wx W) newer (pickD [vIs (.slice (some ⟨b, off, none⟩) l.length xp), vIs (.int .i64 k), vIs (.pointer (some ⟨b, off + k * 4, none⟩)), vIs (.pointer (some ⟨b, off + k * 4 + 2, none⟩)), vIs (.agg #[vi d.lo, vi d.hi]), vIs (.slice (some ⟨lb, lo, none⟩) g.cells.length cp3), vIs (.slice (some ⟨b, off, none⟩) l.length xp), vIs (.int .i64 k), vIs (.pointer (some ⟨b, off + k * 4, none⟩)), vIs (.pointer (some ⟨b, off + k * 4, none⟩)), vIs (vi ci), vIs (.pointer (some ⟨lb, lo + ci, none⟩)), vIs (vi ((stL g days soak (di + 1)).f ci)), vIs (.bool bb)]) (fun h k => newer_trans h k) (pickD_stable _ ⟨vIs_st, vIs_st, vIs_st, vIs_st, vIs_st, vIs_st, vIs_st, vIs_st, vIs_st, vIs_st, vIs_st, vIs_st, vIs_st, vIs_st, trivial⟩) (Below.refl _ wx).drew (Below.refl _ _) ?_ ?_)
        · refine ⟨?_, ?_, ?_, ?_, ?_, ?_, ?_, ?_, ?_, ?_, ?_, ?_, ?_, ?_, trivial⟩
          · intro a W hG hR hO hp
            have h2 := hO.slot 2 (by kernel_rfl)
            refine wp_yields (v := .slice (some ⟨b, off, none⟩) l.length xp) ?_ ⟨_, rfl, rfl, Below.refl _ _, hG⟩
            simp [slotOf] at h2
            simp [execOp, go_sem, h2]
          · intro a W hG hR hO hp
            have h10 := hO.slot 10 (by kernel_rfl)
            refine wp_yields (v := .int .i64 k) ?_ ⟨_, rfl, rfl, Below.refl _ _, hG⟩
            simp [slotOf] at h10
            simp [execOp, go_sem, h10]
          · intro a W hG hR hO hp
            have h39 : slotOf a 39 = .slice (some ⟨b, off, none⟩) l.length xp := hp.1
            have h40 : slotOf a 40 = .int .i64 k := hp.2.1
            refine wp_yields (v := .pointer (some ⟨b, off + k * 4, none⟩)) ?_ ⟨_, rfl, rfl, Below.refl _ _, hG⟩
            simp [slotOf] at h39 h40 hkn
            simp [execOp, go_sem, h39, h40, hkn]
          · intro a W hG hR hO hp
            have h41 : slotOf a 41 = .pointer (some ⟨b, off + k * 4, none⟩) := hp.1
            refine wp_yields (v := .pointer (some ⟨b, off + k * 4 + 2, none⟩)) ?_ ⟨_, rfl, rfl, Below.refl _ _, hG⟩
            simp [slotOf] at h41
            simp [execOp, go_sem, h41]
          · intro a W hG hR hO hp
            have h42 : slotOf a 42 = .pointer (some ⟨b, off + k * 4 + 2, none⟩) := hp.1
            have c0 := keep_cell p2 hG
            have c1 := keep_cell p3 hG
            refine wp_yields (v := .agg #[vi d.lo, vi d.hi]) ?_ ⟨_, rfl, rfl, Below.refl _ _, hG⟩
            simp [slotOf] at h42
            simp [execOp, go_sem, h42, c0, c1]
          · intro a W hG hR hO hp
            have h11 := hO.slot 11 (by kernel_rfl)
            refine wp_yields (v := .slice (some ⟨lb, lo, none⟩) g.cells.length cp3) ?_ ⟨_, rfl, rfl, Below.refl _ _, hG⟩
            simp [slotOf] at h11
            simp [execOp, go_sem, h11]
          · intro a W hG hR hO hp
            have h2 := hO.slot 2 (by kernel_rfl)
            refine wp_yields (v := .slice (some ⟨b, off, none⟩) l.length xp) ?_ ⟨_, rfl, rfl, Below.refl _ _, hG⟩
            simp [slotOf] at h2
            simp [execOp, go_sem, h2]
          · intro a W hG hR hO hp
            have h10 := hO.slot 10 (by kernel_rfl)
            refine wp_yields (v := .int .i64 k) ?_ ⟨_, rfl, rfl, Below.refl _ _, hG⟩
            simp [slotOf] at h10
            simp [execOp, go_sem, h10]
          · intro a W hG hR hO hp
            have h45 : slotOf a 45 = .slice (some ⟨b, off, none⟩) l.length xp := hp.1
            have h46 : slotOf a 46 = .int .i64 k := hp.2.1
            refine wp_yields (v := .pointer (some ⟨b, off + k * 4, none⟩)) ?_ ⟨_, rfl, rfl, Below.refl _ _, hG⟩
            simp [slotOf] at h45 h46 hkn
            simp [execOp, go_sem, h45, h46, hkn]
          · intro a W hG hR hO hp
            have h47 : slotOf a 47 = .pointer (some ⟨b, off + k * 4, none⟩) := hp.1
            refine wp_yields (v := .pointer (some ⟨b, off + k * 4, none⟩)) ?_ ⟨_, rfl, rfl, Below.refl _ _, hG⟩
            simp [slotOf] at h47
            simp [execOp, go_sem, h47]
          · intro a W hG hR hO hp
            have h48 : slotOf a 48 = .pointer (some ⟨b, off + k * 4, none⟩) := hp.1
            have c0 := keep_cell p0 hG
            refine wp_yields (v := vi ci) ?_ ⟨_, rfl, rfl, Below.refl _ _, hG⟩
            simp [slotOf] at h48
            simp [execOp, go_sem, h48, c0]
          · intro a W hG hR hO hp
            have h44 : slotOf a 44 = .slice (some ⟨lb, lo, none⟩) g.cells.length cp3 := hp.1
            have h49 : slotOf a 49 = vi ci := hp.2.1
            refine wp_yields (v := .pointer (some ⟨lb, lo + ci, none⟩)) ?_ ⟨_, rfl, rfl, Below.refl _ _, hG⟩
            simp [slotOf] at h44 h49 hcn
            simp [execOp, go_sem, h44, h49, hcn]
          · intro a W hG hR hO hp
            have h50 : slotOf a 50 = .pointer (some ⟨lb, lo + ci, none⟩) := hp.1
            have c0 := keep_cell hlv hG
            refine wp_yields (v := vi ((stL g days soak (di + 1)).f ci)) ?_ ⟨_, rfl, rfl, Below.refl _ _, hG⟩
            simp [slotOf] at h50
            simp [execOp, go_sem, h50, c0]
          · intro a W hG hR hO hp
            have h43 : slotOf a 43 = .agg #[vi d.lo, vi d.hi] := hp.1
            have h51 : slotOf a 51 = vi ((stL g days soak (di + 1)).f ci) := hp.2.1
            refine wp_enters (f := 71) (args := #[.agg #[vi d.lo, vi d.hi], vi ((stL g days soak (di + 1)).f ci)]) ?_ ((refHas_any d.lo d.hi ((stL g days soak (di + 1)).f ci) W).mono ?_)
            · simp [slotOf] at h43 h51
              simp [go_sem, h43, h51]
            · rintro e w' ⟨rfl, rfl⟩
              exact ⟨_, rfl, _, rfl, (by rw [HBB.out]; rfl), (Below.refl _ _).alloc (Nat.le_refl _) _, hG.alloc hG.size _⟩
        · intro W hG hR
          rintro _ rfl _ rfl _ rfl _ rfl _ rfl _ rfl _ rfl _ rfl _ rfl _ rfl _ rfl _ rfl _ rfl _ rfl
          change wpList _ _ _ _ _ _
          simp only [Act.put, List.setIfInBounds_toArray, List.set_cons_zero, List.set_cons_succ, List.drop_succ_cons, List.drop_zero]
          have HZ := Lib.hid (And.intro (HR1.out.1.next hG) (HR1.out.2.next hG))
          clear hG hR HR1 p0 p2 p3 hlv HY HRW
          cases bb with
          | false =>
            have he : er = false := by
              rw [HE.out, List.all_eq_false]
              exact ⟨d, List.mem_of_getElem? HDK.out, by simp [HB.out]⟩
            subst he
            go_wp2_with fail
            go_ret
            exact ⟨rfl, HZ.out.1.below⟩
          | true =>
            go_wp2_with fail
            go_roundw
            case rel => exact ⟨k + 1, by omega, by go_num, HZ.out, by rw [take_all_succ _ HDK.out, HA.out, HB.out]; rfl⟩
            case measure => simp [intOf]; omega
    · have hke : k = l.length := by omega
      subst hke
      have he : er = true := by
        have := HA.out
        rw [List.take_length] at this
        rw [HE.out, this]
      subst he
      clear hx
      go_wp2_with fail
      go_ret
      exact ⟨rfl, HX.out.1.below⟩
end Go.Proofs.Yteonkhohloabfaa

/- Plain laws of Learn: which soaks agree with readings. -/
namespace Go.Proofs.Yteonkhohloabfaa

theorem lvL_mono {g : Gnd} {days : List Day} (hf : faultN g days = 0) {s' s : Int} (h0 : g.klo ≤ s') (h1 : s' ≤ s) (h2 : s ≤ g.khi) {p : Int × Int} (hp : 0 ≤ p.1 ∧ p.1 < g.cells.length ∧ 0 ≤ p.2 ∧ p.2 < days.length) : lvL g days s' p ≤ lvL g days s p := by
  have ok := wayOk_soak hf (soak := s) (by omega) h2
  have ok' := wayOk_soak hf (soak := s') h0 (by omega)
  exact (stAt_mono ok ok' (Drier.refl _) h1 (fun _ _ => Int.le_refl _) (fun _ _ => Int.le_refl _) (Int.le_refl _) (p.2.toNat + 1) (by omega)).1 p.1.toNat (by omega)

theorem set_all {α : Type} (f : α → Bool) (c : Bool) : ∀ (l : List α) (i : Nat) (a b : α), l[i]? = some a → f b = (f a && c) → (l.set i b).all f = (l.all f && c)
  | [], _, _, _, h, _ => by simp at h
  | x :: l, 0, a, b, h, hb => by
    simp at h
    subst h
    simp only [List.set_cons_zero, List.all_cons, hb]
    cases f x <;> cases c <;> simp
  | x :: l, i + 1, a, b, h, hb => by
    simp only [List.set_cons_succ, List.all_cons]
    rw [set_all f c l i a b (by simpa using h) hb]
    cases f x <;> simp
/-- Is a level right by what a spot allows? -/
def fitR (V : Int × Int → Int) (p : (Int × Int) × (Int × Int)) : Bool := inB (V p.1) p.2.1 p.2.2
theorem fit_meet (x lo hi a b : Int) : inB x (mxI lo a) (mnI hi b) = (inB x lo hi && inB x a b) := by
  rw [Bool.eq_iff_iff]
  have h1 := mxI_ge lo a
  have h2 := mnI_le hi b
  generalize mxI lo a = p at h1
  generalize mnI hi b = q at h2
  simp only [inB, Bool.and_eq_true, decide_eq_true_eq]
  constructor
  · rintro ⟨h3, h4⟩
    refine ⟨⟨?_, ?_⟩, ?_, ?_⟩ <;> omega
  · rintro ⟨⟨h3, h4⟩, h5, h6⟩
    refine ⟨?_, ?_⟩ <;> omega
theorem step_all (V : Int × Int → Int) (acc : Rdm) (x : Rdg) : (readStep acc x).all (fitR V) = (acc.all (fitR V) && inB (V (x.cell, x.day)) x.lo x.hi) := by
  unfold readStep putR meetR
  cases h : atR (x.cell, x.day) acc 0 with
  | none =>
    simp only [List.all_append, List.all_cons, List.all_nil, Bool.and_true, fitR, fit_meet, Bool.and_self]
  | some iv =>
    obtain ⟨i, lo, hi⟩ := iv
    obtain ⟨_, h2⟩ := atR_some h
    exact set_all (fitR V) _ acc i _ _ h2 (fit_meet _ _ _ _ _)
theorem readM_all (V : Int × Int → Int) : ∀ (l : List Rdg) (acc : Rdm), (l.foldl readStep acc).all (fitR V) = (acc.all (fitR V) && l.all fun x => inB (V (x.cell, x.day)) x.lo x.hi)
  | [], acc => by simp
  | x :: l, acc => by
    rw [List.foldl_cons, readM_all V l, step_all, List.all_cons, Bool.and_assoc]
theorem all_two {α : Type} (p q : α → Bool) : ∀ l : List α, (l.all fun x => p x && q x) = (l.all p && l.all q)
  | [] => rfl
  | x :: l => by
    simp only [List.all_cons, all_two p q l]
    cases p x <;> cases q x <;> simp
/-- Readings agree with a soak if the level is right at each spot. -/
theorem ag_two (g : Gnd) (days : List Day) (l : List Rdg) (s : Int) : l.all (agB g days s) = (allB g days (readM l) geLo s && allB g days (readM l) leHi s) := by
  have h := readM_all (lvL g days s) l []
  simp only [List.all_nil, Bool.true_and] at h
  unfold allB
  rw [← all_two]
  exact h.symm
theorem ge_up {g : Gnd} {days : List Day} {l : List Rdg} (hf : faultN g days = 0) (hall : l.all (rdgB g.cells.length days.length) = true) {s' s : Int} (h0 : g.klo ≤ s') (h1 : s' ≤ s) (h2 : s ≤ g.khi) (h : allB g days (readM l) geLo s' = true) : allB g days (readM l) geLo s = true := by
  unfold allB at *
  rw [List.all_eq_true] at h ⊢
  intro p hp
  have hsp := readM_spots l (fun x hx => List.all_eq_true.1 hall x hx) p hp
  have hm := lvL_mono hf h0 h1 h2 hsp
  have := h p hp
  simp only [geLo, decide_eq_true_eq] at this ⊢
  omega
theorem le_down {g : Gnd} {days : List Day} {l : List Rdg} (hf : faultN g days = 0) (hall : l.all (rdgB g.cells.length days.length) = true) {s' s : Int} (h0 : g.klo ≤ s') (h1 : s' ≤ s) (h2 : s ≤ g.khi) (h : allB g days (readM l) leHi s = true) : allB g days (readM l) leHi s' = true := by
  unfold allB at *
  rw [List.all_eq_true] at h ⊢
  intro p hp
  have hsp := readM_spots l (fun x hx => List.all_eq_true.1 hall x hx) p hp
  have hm := lvL_mono hf h0 h1 h2 hsp
  have := h p hp
  simp only [leHi, decide_eq_true_eq] at this ⊢
  omega
theorem halved_up {p : Int → Bool} {a b n : Int} (h : Halved p a b n (n - 1)) (up : ∀ s' s, a ≤ s' → s' ≤ s → s ≤ b → p s' = true → p s = true) {s : Int} (h0 : a ≤ s) (h1 : s ≤ b) : p s = true ↔ n ≤ s := by
  constructor
  · intro hp
    rcases Int.lt_or_le s n with hlt | hle
    · exfalso
      rcases h.lower with e | e
      · omega
      · have h3 := h.le3
        have := up s (n - 1) h0 (by omega) (by omega) hp
        rw [e] at this
        cases this
    · exact hle
  · intro hn
    rcases h.upper with e | e
    · omega
    · rw [show n - 1 + 1 = n by omega] at e
      exact up n s h.le1 hn h1 e
/-- What Learn finds are just the soaks that agree. -/
theorem learn_says {g : Gnd} {days : List Day} {l : List Rdg} (hf : faultN g days = 0) (hall : l.all (rdgB g.cells.length days.length) = true) {n m : Int} (hn : Halved (allB g days (readM l) geLo) g.klo g.khi n (n - 1)) (hm : Halved (fun x => !allB g days (readM l) leHi x) g.klo g.khi m (m - 1)) {s : Int} (h0 : g.klo ≤ s) (h1 : s ≤ g.khi) :
    l.all (agB g days s) = inB s n (m - 1) := by
  have a := halved_up hn (fun s' s h0 h1 h2 h => ge_up hf hall h0 h1 h2 h) h0 h1
  have b := halved_up hm (fun s' s h0 h1 h2 h => by
    cases hq : allB g days (readM l) leHi s with
    | false => rfl
    | true => rw [le_down hf hall h0 h1 h2 hq] at h; cases h) h0 h1
  have b' : allB g days (readM l) leHi s = true ↔ s ≤ m - 1 := by
    cases hq : allB g days (readM l) leHi s with
    | false =>
      rw [hq] at b
      have := b.1 rfl
      constructor
      · intro h; cases h
      · intro h; omega
    | true =>
      rw [hq] at b
      constructor
      · intro _
        rcases Int.lt_or_le s m with h | h
        · omega
        · have := b.2 h; cases this
      · intro _; rfl
  rw [ag_two, Bool.eq_iff_iff]
  simp only [inB, Bool.and_eq_true, decide_eq_true_eq]
  rw [a, b']
end Go.Proofs.Yteonkhohloabfaa

