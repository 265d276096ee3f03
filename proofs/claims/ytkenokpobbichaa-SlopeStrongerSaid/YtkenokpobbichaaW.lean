/- Small functions of the laws. -/
import Derived.Test.YtkenokpobbichaaV
namespace Go.Proofs.Ytkenokpobbichaa
open Go.RowKit Go.Shelf Go.Deep

set_option maxRecDepth 100000 in
set_option maxHeartbeats 1000000 in
theorem lawList (l : List Int) (A : Option Addr) (cp : Nat) (w : World) (hl : l.length ≤ 1000) (hr : Row intL 1 w w.heap.size A l) : Calls Try.prog 29 #[.slice A l.length cp] w (copiedC w l) := by
  have HR := Lib.hid (row_alloc hr (.cells #[] 3))
  obtain ⟨i0, hi0, hz0, hz1, hz2⟩ := info_parts info_int
  have HI := Lib.hid (And.intro hi0 (And.intro hz0 (And.intro hz1 hz2)))
  clear hr hi0 hz0 hz1 hz2
  go_enter Try.func29, Try.ntmps29
  go_wp2_with (at_builtin; go_loud ((refine wpList_plain rfl fun K hK => wp_append_copy (enc := intL) (size := 1) (.tmp 3) (.tmp 4) 25 3 i0 (.int .i64 0) 8 Try.underlying25 HI.out.1 HI.out.2.1 HI.out.2.2.1 HI.out.2.2.2 rfl (by omega) (by omega) (fun _ => rfl) rfl w.heap.size rfl l A cp rfl hl HR.out fun B c w' hB hb hc hge => hK _ _ ?_); have HB := Lib.hid (And.intro hB (And.intro ((((Below.refl w.heap.size w).alloc (Nat.le_refl _) (.cells #[] 3))).trans (hb.mono (by simp))) (And.intro (show w.heap.size ≤ B.block by simp at hge; omega) hc))); clear hB hb hge hc))
  go_ret
  exact ⟨_, _, rfl, HB.out.2.2.2, HB.out.1, HB.out.2.1, fun a e => by cases e; exact HB.out.2.2.1⟩
set_option maxRecDepth 100000 in
set_option maxHeartbeats 1000000 in
theorem lawInts (l m : List Int) (A B : Option Addr) (cp dp : Nat) (w : World) (hl : l.length ≤ 1000) (_ : m.length ≤ 1000) (hr : Row intL 1 w w.heap.size A l) (hs : Row intL 1 w w.heap.size B m) :
    Calls Try.prog 36 #[.slice A l.length cp, .slice B m.length dp] w fun e w' => e = .returned (.bool (decide (l = m))) ∧ Below w.heap.size w w' := by
  have HR := Lib.hid hr
  have HS := Lib.hid hs
  clear hr hs
  by_cases hlen : l.length = m.length
  case neg =>
    have hb0 : (l.length == m.length) = false := by simpa using hlen
    have hb1 : (l.length != m.length) = true := by simpa using hlen
    have hb2 : ((l.length : Int) == (m.length : Int)) = false := by simp; omega
    have hb3 : ((l.length : Int) != (m.length : Int)) = true := by simp; omega
    have HF := Lib.hid (show decide (l = m) = false from decide_eq_false (fun e => hlen (by rw [e])))
    clear hlen
    go_enter Try.func36, Try.ntmps36
    go_wp2_with fail
    go_ret
    exact ⟨by rw [HF.out]; rfl, Below.refl _ _⟩
  case pos =>
    have HLE := Lib.hid hlen
    obtain ⟨n, hn⟩ : ∃ n, n = l.length := ⟨_, rfl⟩
    rw [← hlen, ← hn]
    have HN := Lib.hid hn
    rw [← hn] at hl
    clear hlen hn
    go_enter Try.func36, Try.ntmps36
    go_wp2_with fail
    go_loopw [5] (fun s5 wr => ∃ k : Nat, k ≤ n ∧ s5 = .int .i64 k ∧ newer w wr ∧ goodTo2 l m k) (fun s5 _ => n - (intOf s5).toNat)
    case atStart => exact ⟨0, Nat.zero_le _, rfl, Below.refl _ _, fun _ h => by omega⟩
    case round =>
      obtain ⟨k, hk, rfl, hnw, he⟩ := hrel
      have HE := Lib.hid he
      clear he
      by_cases hlt : k < n
      · obtain ⟨x, hx⟩ := get_of_lt (l := l) (k := k) (by have := HN.out; omega)
        obtain ⟨y, hy⟩ := get_of_lt (l := m) (k := k) (by have := HN.out; have := HLE.out; omega)
        obtain ⟨ab, ao, rfl, _, ha⟩ := row1 (HR.out.below hnw) hx
        obtain ⟨bb, bo, rfl, _, hb⟩ := row1 (HS.out.below hnw) hy
        have hkn : (k : Int) < n := by omega
        have HXY := Lib.hid (And.intro hx hy)
        have HNW := Lib.hid hnw
        clear hx hy hnw
        cases hxy : (x == y)
        · have hxn : (x != y) = true := by simp [bne, hxy]
          have HF := Lib.hid (show decide (l = m) = false from decide_eq_false (fun e => by
            have h1 := HXY.out.1
            rw [e, HXY.out.2] at h1
            injection h1 with h1
            rw [h1] at hxy
            simp at hxy))
          go_wp2_with fail
          go_quiet (fail)
          go_wp2_with fail
          go_ret
          exact ⟨by rw [HF.out]; rfl, newer_trans HNW.out (newer_drewN _ _)⟩
        · have hxn : (x != y) = false := by simp [bne, hxy]
          have HF := Lib.hid (show goodTo2 l m (k + 1) from goodTo2_succ HE.out (by rw [HXY.out.1, HXY.out.2]; simpa using hxy))
          go_wp2_with fail
          go_quiet (fail)
          go_wp2_with fail
          go_roundw
          case rel => exact ⟨k + 1, by omega, by go_num, newer_trans HNW.out (newer_drewN _ _), HF.out⟩
          case measure => simp [intOf]; omega
      · have HF := Lib.hid (show decide (l = m) = true from decide_eq_true (goodTo2_all (by have := HN.out; have := HLE.out; omega) (HE.out) (by have := HN.out; omega)))
        have HNW := Lib.hid hnw
        clear hnw
        go_wp2_with fail
        go_ret
        exact ⟨by rw [HF.out]; rfl, HNW.out⟩

set_option maxHeartbeats 1000000 in
theorem to_any (r : Rg) (w : World) : Calls Try.prog 23 #[rgV r] w fun e w' => e = .returned (rgV r) ∧ newer w w' := by
  have hnw : newer w ((w.alloc (.cells #[vi r.lo, vi r.hi] 42)).alloc (.cells #[vi r.lo, vi r.hi] 31)) := newer_trans (newer_allocH _ _) (newer_allocH _ _)
  have hxb := (Whole.made w 42 #[vi r.lo, vi r.hi]).alloc (.cells #[vi 0, vi 0] 31)
  have hrb := Whole.made (w.alloc (.cells #[vi r.lo, vi r.hi] 42)) 31 #[vi r.lo, vi r.hi]
  rw [World.size_alloc] at hrb
  have H0 := Lib.hid (And.intro hnw hrb)
  have x0 := hxb.at 0 (v := vi r.lo) rfl
  have x1 := hxb.at 1 (v := vi r.hi) rfl
  clear hnw hxb hrb
  go_enter Try.func23, Try.ntmps23
  go_wp2_with fail
  have z0 := H0.out.2.at 0 (v := vi r.lo) rfl
  have z1 := H0.out.2.at 1 (v := vi r.hi) rfl
  exact bodyPost_ret (v := .agg #[vi r.lo, vi r.hi]) (by simp [results, Try.results23, go_sem, z0, z1]) rfl ⟨rfl, H0.out.1⟩
set_option maxHeartbeats 1000000 in
theorem span56_any (lo hi : Int) (w : World) : Calls Try.prog 56 #[vi lo, vi hi] w fun e w' => e = .returned (rgV ⟨lo, hi⟩) ∧ newer w w' := by
  have H0 := Lib.hid (And.intro (newer_allocH w (.cells #[vi lo, vi hi] 31)) (Whole.made w 31 #[vi lo, vi hi]))
  go_enter Try.func56, Try.ntmps56
  go_wp2_with fail
  have z0 := H0.out.2.at 0 (v := vi lo) rfl
  have z1 := H0.out.2.at 1 (v := vi hi) rfl
  exact bodyPost_ret (v := .agg #[vi lo, vi hi]) (by simp [results, Try.results56, go_sem, z0, z1]) rfl ⟨rfl, H0.out.1⟩
set_option maxHeartbeats 1000000 in
theorem bed87_any (drive normal : Int) (fr co wa : Rg) (w : World) : Calls Try.prog 87 #[vi drive, vi normal, rgV fr, rgV co, rgV wa] w fun e w' => e = .returned (bdV ⟨drive, normal, fr, co, wa⟩) ∧ newer w w' := by
  obtain ⟨w3, hw3⟩ : ∃ w3, w3 = ((w.alloc (.cells #[vi fr.lo, vi fr.hi] 31)).alloc (.cells #[vi co.lo, vi co.hi] 31)).alloc (.cells #[vi wa.lo, vi wa.hi] 31) := ⟨_, rfl⟩
  have hn3 : newer w w3 := by rw [hw3]; exact newer_trans (newer_trans (newer_allocH _ _) (newer_allocH _ _)) (newer_allocH _ _)
  have e4 := newer_allocH w3 (.cells #[vi drive, vi normal, vi fr.lo, vi fr.hi, vi co.lo, vi co.hi, vi wa.lo, vi wa.hi] 104)
  have hs3 : w3.heap.size = w.heap.size + 1 + 1 + 1 := by rw [hw3]; simp
  have a1 : Whole w3 w.heap.size 31 #[vi fr.lo, vi fr.hi] := by rw [hw3]; exact ((Whole.made w 31 #[vi fr.lo, vi fr.hi]).alloc _).alloc _
  have a2 : Whole w3 (w.heap.size + 1) 31 #[vi co.lo, vi co.hi] := by rw [hw3]; have h := (Whole.made (w.alloc (.cells #[vi fr.lo, vi fr.hi] 31)) 31 #[vi co.lo, vi co.hi]).alloc (.cells #[vi wa.lo, vi wa.hi] 31); rw [World.size_alloc] at h; exact h
  have a3 : Whole w3 (w.heap.size + 1 + 1) 31 #[vi wa.lo, vi wa.hi] := by rw [hw3]; have h := Whole.made ((w.alloc (.cells #[vi fr.lo, vi fr.hi] 31)).alloc (.cells #[vi co.lo, vi co.hi] 31)) 31 #[vi wa.lo, vi wa.hi]; rw [World.size_alloc, World.size_alloc] at h; exact h
  have a4 := Whole.made w3 104 #[vi drive, vi normal, vi fr.lo, vi fr.hi, vi co.lo, vi co.hi, vi wa.lo, vi wa.hi]
  rw [hs3] at a4
  have b1 := a1.below e4 a1.lt
  have b2 := a2.below e4 a2.lt
  have b3 := a3.below e4 a3.lt
  have H0 := Lib.hid (And.intro (newer_trans hn3 e4) a4)
  rw [hw3] at b1 b2 b3 a4 H0
  clear a1 a2 a3 hs3 e4 hn3 hw3
  have x0 := b1.at 0 (v := vi fr.lo) rfl
  have x1 := b1.at 1 (v := vi fr.hi) rfl
  have y0 := b2.at 0 (v := vi co.lo) rfl
  have y1 := b2.at 1 (v := vi co.hi) rfl
  have u0 := b3.at 0 (v := vi wa.lo) rfl
  have u1 := b3.at 1 (v := vi wa.hi) rfl
  clear a4 b1 b2 b3
  go_enter Try.func87, Try.ntmps87
  go_wp2_with fail
  have z0 := H0.out.2.at 0 (v := vi drive) rfl
  have z1 := H0.out.2.at 1 (v := vi normal) rfl
  have z2 := H0.out.2.at 2 (v := vi fr.lo) rfl
  have z3 := H0.out.2.at 3 (v := vi fr.hi) rfl
  have z4 := H0.out.2.at 4 (v := vi co.lo) rfl
  have z5 := H0.out.2.at 5 (v := vi co.hi) rfl
  have z6 := H0.out.2.at 6 (v := vi wa.lo) rfl
  have z7 := H0.out.2.at 7 (v := vi wa.hi) rfl
  exact bodyPost_ret (v := .agg #[vi drive, vi normal, vi fr.lo, vi fr.hi, vi co.lo, vi co.hi, vi wa.lo, vi wa.hi]) (by simp [results, Try.results87, go_sem, z0, z1, z2, z3, z4, z5, z6, z7]) rfl ⟨rfl, H0.out.1⟩
set_option maxHeartbeats 1000000 in
theorem from0_any (A : Option Addr) (n c : Nat) (w : World) : Calls Try.prog 55 #[.slice A n c] w fun e w' => e = .returned (.agg #[vi 0, .slice A n c]) ∧ newer w w' := by
  have H0 := Lib.hid (And.intro (newer_allocH w (.cells #[vi 0, .slice A n c] 39)) (Whole.made w 39 #[vi 0, .slice A n c]))
  go_enter Try.func55, Try.ntmps55
  go_wp2_with fail
  have z0 := H0.out.2.at 0 (v := vi 0) rfl
  have z1 := H0.out.2.at 1 (v := .slice A n c) rfl
  exact bodyPost_ret (v := .agg #[vi 0, .slice A n c]) (by simp [results, Try.results55, go_sem, z0, z1]) rfl ⟨rfl, H0.out.1⟩

end Go.Proofs.Ytkenokpobbichaa
