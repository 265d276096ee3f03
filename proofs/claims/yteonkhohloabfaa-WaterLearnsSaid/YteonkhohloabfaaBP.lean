/- The two searches of Learn. -/
import Derived.Test.YteonkhohloabfaaBO
namespace Go.Proofs.Yteonkhohloabfaa
open Go.RowKit Go.Shelf

def geLo (x lo _ : Int) : Bool := decide (lo ≤ x)
def leHi (x _ hi : Int) : Bool := decide (x ≤ hi)
/-- What the searches' tests hold. -/
structure LnF (s : Way) (b rb mb mp eb : Nat) (f : Nat → Int) (snow left : Int) (M : Rdm) (W : World) : Prop where
  ln : LnE s b rb mb mp f snow left M W
  each : Whole W eb 143 #[.func (.func 77) #[] #[.pointer (some ⟨rb, 0, none⟩), .pointer (some ⟨mb, 0, none⟩)]]
theorem LnF.next {s : Way} {b rb mb mp eb : Nat} {f : Nat → Int} {snow left : Int} {M : Rdm} {W W' : World} (h : LnF s b rb mb mp eb f snow left M W) (hb : newer W W') : LnF s b rb mb mp eb f snow left M W' :=
  ⟨h.ln.next hb, h.each.below hb h.each.lt⟩
section
variable {s : Way} {b rb mb mp eb : Nat} {f : Nat → Int} {snow left : Int} {M : Rdm}
theorem test78 (soak : Int) (w : World) (h : LnF s b rb mb mp eb f snow left M w) (ok : WayOk s.l s.melt soak s.days s.rain ⟨iAt s.levels, s.tsnow, 0⟩) (h8 : s.levels.length ≤ 8) (h1 : 1 ≤ s.l.length) (hsp : spotsOk s M) :
    Calls Try.prog 78 #[vi soak, .pointer (some ⟨eb, 0, none⟩)] w fun e w' => e = .returned (.bool (eachB s M geLo soak)) ∧ newer w w' := by
  have HC := Lib.hid (each_any 79 geLo (fun x lo hi W => least79 x lo hi W) call79 s b rb mb mp f snow left M soak w h.ln ok h8 h1 hsp)
  have c0 := h.each.at 0 rfl
  clear h ok hsp
  go_enter Try.func78, Try.ntmps78
  go_wp2_with fail
  refine (HC.out).mono ?_
  rintro e w1 ⟨rfl, hb⟩
  have HB := Lib.hid hb
  clear hb c0
  go_wp2_with fail
  go_ret
  exact ⟨rfl, HB.out⟩
theorem test80 (soak : Int) (w : World) (h : LnF s b rb mb mp eb f snow left M w) (ok : WayOk s.l s.melt soak s.days s.rain ⟨iAt s.levels, s.tsnow, 0⟩) (h8 : s.levels.length ≤ 8) (h1 : 1 ≤ s.l.length) (hsp : spotsOk s M) :
    Calls Try.prog 80 #[vi soak, .pointer (some ⟨eb, 0, none⟩)] w fun e w' => e = .returned (.bool (!eachB s M leHi soak)) ∧ newer w w' := by
  have HC := Lib.hid (each_any 81 leHi (fun x lo hi W => most81 x lo hi W) call81 s b rb mb mp f snow left M soak w h.ln ok h8 h1 hsp)
  have c0 := h.each.at 0 rfl
  clear h ok hsp
  go_enter Try.func80, Try.ntmps80
  go_wp2_with fail
  refine (HC.out).mono ?_
  rintro e w1 ⟨rfl, hb⟩
  have HB := Lib.hid hb
  clear hb c0
  go_wp2_with fail
  go_ret
  exact ⟨rfl, HB.out⟩
end
set_option maxRecDepth 100000 in
set_option maxHeartbeats 1000000 in
theorem lowest78 (p : Int → Bool) (a b : Int) (x1 : Value) (I : World → Prop) (w : World) (ha : 0 ≤ a) (hab : a ≤ b + 1) (hb : b ≤ 1000000) (h0 : I w)
    (hp : ∀ n W, a ≤ n → n ≤ b → I W → Calls Try.prog 78 #[.int .i64 n, x1] W fun e W' => e = .returned (.bool (p n)) ∧ I W') :
    Calls Try.prog 62 #[.int .i64 a, .int .i64 b, .func (.func 78) #[] #[x1]] w (lowestOut p a b I) := by
  have HP := Lib.hid hp
  clear hp
  go_enter Try.func62, Try.ntmps62
  go_wp2
  go_loopw [0, 1, 7] (fun l h _ wr => ∃ low high : Int, l = .int .i64 low ∧ h = .int .i64 high ∧ Halved p a b low high ∧ I wr) (fun l h _ _ => (intOf h + 1 - intOf l).toNat)
  case atStart => exact ⟨a, b, rfl, rfl, ⟨Int.le_refl _, hab, Int.le_refl _, .inl rfl, .inl rfl⟩, h0⟩
  case round =>
    obtain ⟨low, high, rfl, rfl, hh, hI⟩ := hrel
    have l1 := hh.le1
    have l2 := hh.le2
    have l3 := hh.le3
    have HH := Lib.hid hh
    clear hh
    by_cases hlt : low ≤ high
    · have m1 : low ≤ (low + high) / 2 := by omega
      have m2 : (low + high) / 2 ≤ high := by omega
      have HC := Lib.hid (HP.out ((low + high) / 2) wr (by omega) (by omega) hI)
      cases hpm : p ((low + high) / 2)
      · rw [hpm] at HC
        go_wp2_with (go_at_call 78; refine (HC.out).mono ?_; rintro e w1 ⟨rfl, hI1⟩)
        go_roundw
        case rel => exact ⟨(low + high) / 2 + 1, high, rfl, rfl, ⟨by omega, by omega, l3, .inr (by rw [show (low + high) / 2 + 1 - 1 = (low + high) / 2 by omega]; exact hpm), HH.out.upper⟩, hI1⟩
        case measure => simp [intOf]; omega
      · rw [hpm] at HC
        go_wp2_with (go_at_call 78; refine (HC.out).mono ?_; rintro e w1 ⟨rfl, hI1⟩)
        go_roundw
        case rel => exact ⟨low, (low + high) / 2 - 1, rfl, rfl, ⟨l1, by omega, by omega, HH.out.lower, .inr (by rw [show (low + high) / 2 - 1 + 1 = (low + high) / 2 by omega]; exact hpm)⟩, hI1⟩
        case measure => simp [intOf]; omega
    · have e : high = low - 1 := by omega
      subst e
      go_wp2_with fail
      go_ret
      exact ⟨_, rfl, HH.out, hI⟩
set_option maxRecDepth 100000 in
set_option maxHeartbeats 1000000 in
theorem lowest80 (p : Int → Bool) (a b : Int) (x1 : Value) (I : World → Prop) (w : World) (ha : 0 ≤ a) (hab : a ≤ b + 1) (hb : b ≤ 1000000) (h0 : I w)
    (hp : ∀ n W, a ≤ n → n ≤ b → I W → Calls Try.prog 80 #[.int .i64 n, x1] W fun e W' => e = .returned (.bool (p n)) ∧ I W') :
    Calls Try.prog 62 #[.int .i64 a, .int .i64 b, .func (.func 80) #[] #[x1]] w (lowestOut p a b I) := by
  have HP := Lib.hid hp
  clear hp
  go_enter Try.func62, Try.ntmps62
  go_wp2
  go_loopw [0, 1, 7] (fun l h _ wr => ∃ low high : Int, l = .int .i64 low ∧ h = .int .i64 high ∧ Halved p a b low high ∧ I wr) (fun l h _ _ => (intOf h + 1 - intOf l).toNat)
  case atStart => exact ⟨a, b, rfl, rfl, ⟨Int.le_refl _, hab, Int.le_refl _, .inl rfl, .inl rfl⟩, h0⟩
  case round =>
    obtain ⟨low, high, rfl, rfl, hh, hI⟩ := hrel
    have l1 := hh.le1
    have l2 := hh.le2
    have l3 := hh.le3
    have HH := Lib.hid hh
    clear hh
    by_cases hlt : low ≤ high
    · have m1 : low ≤ (low + high) / 2 := by omega
      have m2 : (low + high) / 2 ≤ high := by omega
      have HC := Lib.hid (HP.out ((low + high) / 2) wr (by omega) (by omega) hI)
      cases hpm : p ((low + high) / 2)
      · rw [hpm] at HC
        go_wp2_with (go_at_call 80; refine (HC.out).mono ?_; rintro e w1 ⟨rfl, hI1⟩)
        go_roundw
        case rel => exact ⟨(low + high) / 2 + 1, high, rfl, rfl, ⟨by omega, by omega, l3, .inr (by rw [show (low + high) / 2 + 1 - 1 = (low + high) / 2 by omega]; exact hpm), HH.out.upper⟩, hI1⟩
        case measure => simp [intOf]; omega
      · rw [hpm] at HC
        go_wp2_with (go_at_call 80; refine (HC.out).mono ?_; rintro e w1 ⟨rfl, hI1⟩)
        go_roundw
        case rel => exact ⟨low, (low + high) / 2 - 1, rfl, rfl, ⟨l1, by omega, by omega, HH.out.lower, .inr (by rw [show (low + high) / 2 - 1 + 1 = (low + high) / 2 by omega]; exact hpm)⟩, hI1⟩
        case measure => simp [intOf]; omega
    · have e : high = low - 1 := by omega
      subst e
      go_wp2_with fail
      go_ret
      exact ⟨_, rfl, HH.out, hI⟩

/-! ## What Learn asks, in plain numbers -/
/-- The state after k days, all but the soak known. -/
def stL (g : Gnd) (days : List Day) (soak : Int) (k : Nat) : St := stAt g.cells g.melt soak days (days.map fun d => endOf false d.lo d.hi) (stEnd false g) k
def lvL (g : Gnd) (days : List Day) (soak : Int) (p : Int × Int) : Int := (stL g days soak (p.2.toNat + 1)).f p.1.toNat
def allB (g : Gnd) (days : List Day) (M : Rdm) (P : Int → Int → Int → Bool) (soak : Int) : Bool := M.all fun p => P (lvL g days soak p.1) p.2.1 p.2.2
theorem wayOk_soak {g : Gnd} {days : List Day} (hf : faultN g days = 0) {soak : Int} (h0 : g.klo ≤ soak) (h1 : soak ≤ g.khi) : WayOk g.cells g.melt soak days (days.map fun d => endOf false d.lo d.hi) (stEnd false g) := by
  have ok := wayOk_end false hf
  obtain ⟨hg, _, _⟩ := fault_zero hf
  simp only [gndB, Bool.and_eq_true, inB, upB, decide_eq_true_eq] at hg
  obtain ⟨⟨⟨⟨⟨_, _⟩, _⟩, hk⟩, _⟩, _⟩ := hg
  exact ⟨ok.cells, ok.few, ok.melt0, ok.melt1, by omega, by omega, ok.ds, ok.many, ok.rs, ok.rains, ok.start⟩
/-- The readings' spots are cells and days. -/
theorem readM_spots {n m : Nat} : ∀ (l : List Rdg), (∀ x ∈ l, rdgB n m x = true) → ∀ p ∈ readM l, 0 ≤ p.1.1 ∧ p.1.1 < n ∧ 0 ≤ p.1.2 ∧ p.1.2 < m := by
  intro l
  have key : ∀ (l : List Rdg) (acc : Rdm), (∀ x ∈ l, rdgB n m x = true) → (∀ p ∈ acc, 0 ≤ p.1.1 ∧ p.1.1 < n ∧ 0 ≤ p.1.2 ∧ p.1.2 < m) → ∀ p ∈ l.foldl readStep acc, 0 ≤ p.1.1 ∧ p.1.1 < n ∧ 0 ≤ p.1.2 ∧ p.1.2 < m := by
    intro l
    induction l with
    | nil => intro acc _ h; exact h
    | cons x l ih =>
      intro acc hl hacc
      refine ih _ (fun y hy => hl y (List.mem_cons_of_mem _ hy)) ?_
      intro p hp
      have hx := hl x (List.mem_cons_self)
      simp only [rdgB, inB, Bool.and_eq_true, decide_eq_true_eq] at hx
      unfold readStep putR at hp
      split at hp
      · rcases List.mem_or_eq_of_mem_set hp with hp | rfl
        · exact hacc p hp
        · dsimp only; omega
      · rcases List.mem_append.1 hp with hp | hp
        · exact hacc p hp
        · rw [List.mem_singleton] at hp
          subst hp
          dsimp only; omega
  exact fun h => key l [] h (fun p hp => by cases hp)
end Go.Proofs.Yteonkhohloabfaa
