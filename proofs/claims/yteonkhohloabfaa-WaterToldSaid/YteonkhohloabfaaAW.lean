/- Words as arguments; a number picked from a range by a word; the sum of numbers. -/
import Derived.Test.YteonkhohloabfaaAO
namespace Go.Proofs.Yteonkhohloabfaa
open Go.ChangeShapes Go.WideShapes Go.ChangeAt Go.RowKit Go.Deep

/-- A word of sixteen bits. -/
structure Word where
  n : Int
  lo : 0 ≤ n
  hi : n ≤ 65535
abbrev wordL (x : Word) : List Value := [.int .u16 x.n]
theorem Try.cells75 : Try.prog.cellsOf 75 = 1 := by kernel_rfl
section
variable {H : Type} {enc : TypeId × Value → H} {w : World} {base : Nat} {spare : Nat → Bool} {held : Bool} {fuel : Nat} {cs : List Value} {x : DataW H × List MemPlace}
theorem word_cells (h : DataW.trod enc Try.prog w base spare held fuel 75 cs = some x) : ∃ y : Word, cs = wordL y := by
  obtain ⟨z, e, _, hw⟩ := DataW.trod_int Try.underlying75 h
  have hb : 0 ≤ z ∧ z ≤ 65535 := by
    simp [Lit.wf] at hw
    exact hw
  exact ⟨⟨z, hb.1, hb.2⟩, e⟩
theorem words_open (h : DataW.trod enc Try.prog w base spare held fuel 68 cs = some x) : ∃ (D : Option Addr) (l : List Word) (dp : Nat), cs = [.slice D l.length dp] ∧ l.length ≤ maxLen ∧ Row wordL 1 w w.heap.size D l :=
  open_row (ec := wordL) Try.underlying68 Try.cells75 (fun _ => rfl) (by omega) word_cells h
end

/-- A number picked from a range by a word. -/
def pickN (lo hi x : Int) : Int := lo + x % (hi - lo + 1)
theorem pickN_in {lo hi x : Int} (h : lo ≤ hi) : lo ≤ pickN lo hi x ∧ pickN lo hi x ≤ hi := by
  unfold pickN
  have h1 := Int.emod_nonneg x (show hi - lo + 1 ≠ 0 by omega)
  have h2 := Int.emod_lt_of_pos x (show 0 < hi - lo + 1 by omega)
  omega
set_option maxRecDepth 100000 in
set_option maxHeartbeats 1000000 in
theorem pick_any (lo hi x : Int) (w : World) (h0 : 0 ≤ lo) (h1 : lo ≤ hi) (h2 : hi ≤ 1000000) (hx : 0 ≤ x) (hx2 : x ≤ 65535) :
    Calls Try.prog 47 #[.agg #[vi lo, vi hi], .int .u16 x] w fun e w' => e = .returned (vi (pickN lo hi x)) ∧ Below w.heap.size w w' := by
  have k1 : IntKind.i64.wrap (hi - lo) = hi - lo := IntWalk.i64_in _ (by omega)
  have k2 : IntKind.i64.wrap (hi - lo + 1) = hi - lo + 1 := IntWalk.i64_in _ (by omega)
  have k3 : IntKind.i64.wrap x = x := IntWalk.i64_in _ (by omega)
  have hm1 := Int.emod_nonneg x (show hi - lo + 1 ≠ 0 by omega)
  have hm2 := Int.emod_lt_of_pos x (show 0 < hi - lo + 1 by omega)
  have k5 : IntKind.i64.wrap (lo + x % (hi - lo + 1)) = lo + x % (hi - lo + 1) := IntWalk.i64_in _ (by omega)
  have k4 : x.tmod (hi - lo + 1) = x % (hi - lo + 1) := Int.tmod_eq_emod_of_nonneg hx
  have k6 : ¬ (hi - lo + 1 = 0) := by omega
  have k7 : IntKind.i64.wrap (x % (hi - lo + 1)) = x % (hi - lo + 1) := IntWalk.i64_in _ (by omega)
  unfold pickN
  go_enter Try.func47, Try.ntmps47
  go_wp2_with fail
  have hB : Below w.heap.size w (w.alloc (.cells #[vi lo, vi hi] 24)) := (Below.refl _ _).alloc (Nat.le_refl _) _
  have HB := Lib.hid hB
  have hm := Whole.made w 24 #[vi lo, vi hi]
  have c0 := hm.at 0 (v := vi lo) rfl
  have c1 := hm.at 1 (v := vi hi) rfl
  clear hB hm
  obtain ⟨wv, hwv⟩ : ∃ wv, wv = w.alloc (.cells #[vi lo, vi hi] 24) := ⟨_, rfl⟩
  rw [← hwv] at HB c0 c1 ⊢
  clear hwv
  go_quiet (fail)
  go_wp2_with fail
  go_ret
  exact ⟨rfl, below_next HB.out (newer_drewN _ _)⟩

theorem sum_take {l : List Int} {k : Nat} {x : Int} (h : l[k]? = some x) : (l.take (k + 1)).sum = (l.take k).sum + x := by
  obtain ⟨hk, rfl⟩ := List.getElem?_eq_some_iff.1 h
  rw [List.take_succ_eq_append_getElem hk, List.sum_append]
  simp
theorem sum_bd {l : List Int} (h : ∀ x ∈ l, 0 ≤ x ∧ x ≤ 1000000000) : ∀ k : Nat, 0 ≤ (l.take k).sum ∧ (l.take k).sum ≤ k * 1000000000
  | 0 => by simp
  | k + 1 => by
    have ih := sum_bd h k
    cases hk : l[k]? with
    | none =>
      have : l.length ≤ k := by simpa using hk
      rw [List.take_of_length_le (by omega)]
      rw [List.take_of_length_le (by omega)] at ih
      omega
    | some x =>
      rw [sum_take hk]
      have := h x (List.mem_of_getElem? hk)
      omega
set_option maxRecDepth 100000 in
set_option maxHeartbeats 1000000 in
theorem sum_any (l : List Int) (A : Option Addr) (cp : Nat) (w : World) (hl : l.length ≤ 1000) (hb : ∀ x ∈ l, 0 ≤ x ∧ x ≤ 1000000000) (hr : Row intL 1 w w.heap.size A l) :
    Calls Try.prog 39 #[.slice A l.length cp] w fun e w' => e = .returned (vi l.sum) ∧ Below w.heap.size w w' := by
  have HR := Lib.hid hr
  have HB := Lib.hid (sum_bd hb)
  clear hr hb
  go_enter Try.func39, Try.ntmps39
  go_wp2_with fail
  go_loopw [3, 4] (fun s3 s4 wr => ∃ k : Nat, k ≤ l.length ∧ s4 = .int .i64 k ∧ s3 = vi (l.take k).sum ∧ newer w wr) (fun _ s4 _ => l.length - (intOf s4).toNat)
  case atStart => exact ⟨0, Nat.zero_le _, rfl, rfl, Below.refl _ _⟩
  case round =>
    obtain ⟨k, hk, rfl, rfl, hnw⟩ := hrel
    have HN := Lib.hid hnw
    clear hnw
    by_cases hlt : k < l.length
    · have hkm : (k : Int) < l.length := by omega
      obtain ⟨x, hx⟩ := get_of_lt hlt
      obtain ⟨b, off, e, _, hc⟩ := (HR.out.below HN.out) (ne_nil_of_get hx)
      have c0 := hc k x hx 0 _ rfl
      simp only [Nat.mul_one, Nat.add_zero] at c0
      subst e
      have h1 := HB.out k
      have h2 := HB.out (k + 1)
      have hs := sum_take hx
      have hw : IntKind.i64.wrap ((l.take k).sum + x) = (l.take (k + 1)).sum := by rw [hs]; exact IntWalk.i64_in _ (by rw [hs] at h2; push_cast at h2; omega)
      have HS := Lib.hid (And.intro h1 h2)
      clear h1 h2 hs hc
      go_wp2_with fail
      exact ⟨⟨k + 1, by omega, by go_num, rfl, HN.out⟩, by (simp only [intOf]; omega)⟩
    · obtain rfl : k = l.length := by omega
      rw [List.take_length]
      go_wp2_with fail
      go_ret
      exact ⟨rfl, HN.out⟩
end Go.Proofs.Yteonkhohloabfaa
