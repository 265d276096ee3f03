/- Copies of lists. -/
import Derived.Test.YtpmafnifgegfbaaV
namespace Go.Proofs.Ytpmafnifgegfbaa
open Go.RowKit Go.Shelf Go.Deep

theorem info_tool : (Try.prog.info? 112).map (fun i => (i.zero, i.size, i.bytes)) = some (some (.agg #[vi 0, vi 0, vi 0, vi 0, vi 0, vi 0, vi 0]), 7, 56) := by kernel_rfl
theorem row_none {α : Type} {enc : α → List Value} {s B : Nat} {w : World} {l : List α} (h : Row enc s w B none l) : l = [] := by
  by_cases hl : l = []
  · exact hl
  · obtain ⟨b, off, e, _⟩ := h hl
    cases e
set_option maxRecDepth 100000 in
set_option maxHeartbeats 1000000 in
theorem clone3_any {α : Type} {enc : α → List Value} (he : ∀ x, (enc x).length = 1) (l : List α) (A : Option Addr) (cp : Nat) (w : World) (hl : l.length ≤ 1000) (hr : Row enc 1 w w.heap.size A l) :
    Calls Try.prog 113 #[.slice A l.length cp] w fun e w' => ∃ B c, e = .returned (.slice B l.length c) ∧ w'.ownsRow w.heap.size 3 1 (.slice B l.length c) l.length (l.flatMap enc) ∧ newer w w' := by
  have hnil : ∀ (W : World) (A : Option Addr) (n c : Nat), (binOp .eql 24 (.slice A n c) (.slice none 0 0)).run Try.prog W = .ok (.bool A.isNone) W := fun W A n c => by
    simp only [binOp]
    simp [run_equal_slice_nil W 24 3 A n c Try.underlying24]
  cases A with
  | none =>
    obtain rfl := row_none hr
    go_enter Try.func113, Try.ntmps113
    go_wp2_with fail
    go_ret
    exact ⟨none, 0, rfl, ⟨rfl, .inl ⟨rfl, rfl⟩⟩, Below.refl _ _⟩
  | some ad =>
    have HR := Lib.hid (row_alloc hr (.cells #[] 3))
    obtain ⟨i0, hi0, hz0, hz1, hz2⟩ := info_parts info_int
    have HI := Lib.hid (And.intro hi0 (And.intro hz0 (And.intro hz1 hz2)))
    have HW := Lib.hid (Whole.made w 3 #[])
    have HE := Lib.hid he
    clear hr hi0 hz0 hz1 hz2 he
    go_enter Try.func113, Try.ntmps113
    go_wp2_with (at_builtin; go_loud ((refine wpList_plain rfl fun K hK => wp_append_owncopy (enc := enc) (size := 1) w.heap.size (.tmp 5) (.tmp 6) 24 3 i0 (.int .i64 0) 8 Try.underlying24 HI.out.1 HI.out.2.1 HI.out.2.2.1 HI.out.2.2.2 rfl (by omega) (by omega) HE.out rfl w.heap.size rfl (Nat.le_refl _) HW.out l (some ad) cp rfl hl HR.out (by rw [World.size_alloc]; omega) fun B c w' hB hb hc => hK _ _ ?_); have HB := Lib.hid (And.intro hB (newer_trans (newer_allocH w (.cells #[] 3)) hb)); clear hB hb hc))
    go_ret
    exact ⟨_, _, rfl, HB.out.1, HB.out.2⟩
set_option maxRecDepth 100000 in
set_option maxHeartbeats 1000000 in
theorem cloneT_any {α : Type} {enc : α → List Value} (he : ∀ x, (enc x).length = 7) (l : List α) (A : Option Addr) (cp : Nat) (w : World) (hl : l.length ≤ 1000) (hr : Row enc 7 w w.heap.size A l) :
    Calls Try.prog 111 #[.slice A l.length cp] w fun e w' => ∃ B c, e = .returned (.slice B l.length c) ∧ w'.ownsRow w.heap.size 112 7 (.slice B l.length c) l.length (l.flatMap enc) ∧ newer w w' := by
  have hnil : ∀ (W : World) (A : Option Addr) (n c : Nat), (binOp .eql 38 (.slice A n c) (.slice none 0 0)).run Try.prog W = .ok (.bool A.isNone) W := fun W A n c => by
    simp only [binOp]
    simp [run_equal_slice_nil W 38 112 A n c Try.underlying38]
  cases A with
  | none =>
    obtain rfl := row_none hr
    go_enter Try.func111, Try.ntmps111
    go_wp2_with fail
    go_ret
    exact ⟨none, 0, rfl, ⟨rfl, .inl ⟨rfl, rfl⟩⟩, Below.refl _ _⟩
  | some ad =>
    have HR := Lib.hid (row_alloc hr (.cells #[] 112))
    obtain ⟨i0, hi0, hz0, hz1, hz2⟩ := info_parts info_tool
    have HI := Lib.hid (And.intro hi0 (And.intro hz0 (And.intro hz1 hz2)))
    have HW := Lib.hid (Whole.made w 112 #[])
    have HE := Lib.hid he
    clear hr hi0 hz0 hz1 hz2 he
    go_enter Try.func111, Try.ntmps111
    go_wp2_with (at_builtin; go_loud ((refine wpList_plain rfl fun K hK => wp_append_owncopy (enc := enc) (size := 7) w.heap.size (.tmp 5) (.tmp 6) 38 112 i0 (.agg #[vi 0, vi 0, vi 0, vi 0, vi 0, vi 0, vi 0]) 56 Try.underlying38 HI.out.1 HI.out.2.1 HI.out.2.2.1 HI.out.2.2.2 rfl (by omega) (by omega) HE.out rfl w.heap.size rfl (Nat.le_refl _) HW.out l (some ad) cp rfl hl HR.out (by rw [World.size_alloc]; omega) fun B c w' hB hb hc => hK _ _ ?_); have HB := Lib.hid (And.intro hB (newer_trans (newer_allocH w (.cells #[] 112)) hb)); clear hB hb hc))
    go_ret
    exact ⟨_, _, rfl, HB.out.1, HB.out.2⟩

end Go.Proofs.Ytpmafnifgegfbaa
