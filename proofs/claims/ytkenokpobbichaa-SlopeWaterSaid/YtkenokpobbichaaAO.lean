/- All surfaces of a slope, by the reference. -/
import Derived.Test.YtkenokpobbichaaAN
namespace Go.Proofs.Ytkenokpobbichaa
open Go.RowKit Go.Shelf Go.Deep

/-- The surfaces from the first columns. -/
def allTo (n cols K i : Nat) : List (Nat × List Nat) := (List.range i).flatMap fun k => (surfsR n cols K k (cols - k) []).map fun l => (k, l)
def suP (u : Nat × List Nat) : Int × List Int := suN u.1 u.2
theorem allTo_succ (n cols K i : Nat) : allTo n cols K (i + 1) = allTo n cols K i ++ (surfsR n cols K i (cols - i) []).map fun l => (i, l) := by
  unfold allTo
  rw [List.range_succ, List.flatMap_append]
  simp
theorem allTo_few {n cols K i : Nat} (hn : n ≤ 5) (hc : cols ≤ 12) (hi : i ≤ 12) : (allTo n cols K i).length ≤ 26121388032 := by
  have h := flat_few (m := 2176782336) (fun k => (surfsR n cols K k (cols - k) []).map fun l => (k, l)) (fun k => by
    rw [List.length_map]
    exact surfs_few12 hn (by omega) []) i
  have h2 : i * 2176782336 ≤ 12 * 2176782336 := Nat.mul_le_mul_right _ hi
  unfold allTo
  omega
set_option maxRecDepth 100000 in
set_option maxHeartbeats 1000000 in
theorem all_any (s : Sm) (w : World) (hok : SmOk s w) (hs : SdOk s.sd) : Calls Try.prog 28 #[smV s] w fun e w' => surfOut w.heap.size none ((allR s.sd.n s.cs.length s.sd.K).map suP) e w' ∧ newer w w' := by
  have hcl : s.cs.length ≤ 12 ∧ 1 ≤ s.cs.length := by have h1 := hs.cols; rw [sd_len] at h1; omega
  have hnw : newer w (w.alloc (.cells (smC s) 24)) := newer_allocH _ _
  have hxb := Whole.made w 24 (smC s)
  have H0 := Lib.hid (And.intro hnw hxb)
  have x0 := hxb.at 0 (v := .slice s.a s.cs.length s.c) rfl
  have x1 := hxb.at 1 (v := vi s.least) rfl
  obtain ⟨i1, hi1, hy1, hy2, hy3⟩ := info_parts info_su
  have HI1 := Lib.hid (And.intro hi1 (And.intro hy1 (And.intro hy2 hy3)))
  have HOK := Lib.hid hok
  have HNB := Lib.hid hs.beds
  have HSD := Lib.hid hs
  clear hok hs hnw hxb hi1 hy1 hy2 hy3
  go_enter Try.func28, Try.ntmps28
  go_wp2_with fail
  go_loopw [3, 4] (fun s3 s4 wr => ∃ (k : Nat) (us : List Su) (A : Option Addr) (c : Nat), k ≤ s.cs.length ∧ s3 = .slice A us.length c ∧ s4 = vi k ∧ SfJ (w.heap.size + 1) none ((allTo s.sd.n s.cs.length s.sd.K k).map suP) us A c wr ∧ newer w wr ∧ Whole wr w.heap.size 24 (smC s) ∧ w.heap.size + 1 ≤ wr.heap.size) (fun _ s4 _ => s.cs.length - (intOf s4).toNat)
  case atStart => exact ⟨0, [], none, 0, Nat.zero_le _, rfl, rfl, SfJ.none _ _ _, H0.out.1, H0.out.2, by simp [World.size_alloc]⟩
  case round =>
    obtain ⟨k, us, A, c, hk, rfl, rfl, hj, q2, q3, q5⟩ := hrel
    clear x0 x1 H0
    have HJ := Lib.hid hj
    have HQ := Lib.hid (And.intro hk (And.intro q2 q3))
    have HN0 := Lib.hid q5
    have x0 := q3.at 0 (v := .slice s.a s.cs.length s.c) rfl
    have x1 := q3.at 1 (v := vi s.least) rfl
    obtain ⟨wo, rfl⟩ : ∃ wo : World, wo = wr := ⟨_, rfl⟩
    clear hj q2 q3 q5
    by_cases hlt : k < s.cs.length
    · have hlti : (k : Int) < s.cs.length := by omega
      obtain ⟨LL, hLL⟩ : ∃ LL, LL = (surfsR s.sd.n s.cs.length s.sd.K k (s.cs.length - k) []).map (suN k) := ⟨_, rfl⟩
      have HC : Hid (Calls Try.prog 69 #[smV s, .agg #[vi k, .slice none 0 0]] wo fun e w' => surfOut wo.heap.size none LL e w' ∧ newer wo w') := Lib.hid (by
        have h := surfs_any s HSD.out k (s.cs.length - k) [] ⟨k, [], none, 0⟩ wo (HOK.out.next HQ.out.2.1) (fun h => (h rfl).elim) rfl rfl trivial (by simp; omega)
        rw [← hLL] at h
        exact h)
      have HLL := Lib.hid hLL
      clear hLL
      go_wp2_with fail
      refine (HC.out).mono ?_
      rintro e w3 ⟨⟨vs, A2, c2, rfl, hrv, hvi, hve⟩, hb⟩
      have HR2 := Lib.hid (And.intro hrv (And.intro hvi hve))
      have HJ2 := Lib.hid (And.intro (HJ.out.next hb) (And.intro (newer_trans HQ.out.2.1 hb) (And.intro (HQ.out.2.2.below hb HQ.out.2.2.lt) hb.size)))
      have hfb : us.length + vs.length ≤ 28298170368 := by
        have h1 := allTo_few (cols := s.cs.length) (K := s.sd.K) (n := s.sd.n) (i := k) HNB.out.2 hcl.1 (by omega)
        have h2 := surfs_few12 (cols := s.cs.length) (K := s.sd.K) (k := k) (r := s.cs.length - k) (n := s.sd.n) HNB.out.2 (by omega) []
        have h3 : us.length = (allTo s.sd.n s.cs.length s.sd.K k).length := by have := congrArg List.length HJ.out.eq; simpa using this
        have h4 : vs.length = (surfsR s.sd.n s.cs.length s.sd.K k (s.cs.length - k) []).length := by have := congrArg List.length (HR2.out.2.2.trans HLL.out); simpa using this
        omega
      have HFB := Lib.hid hfb
      have hfar : ∀ x ∈ vs, ∀ ad, x.a = some ad → (Value.slice A us.length c).ownBlock ≠ some ad.block := fun x hx ad had e => by
        have h1 := own_lt HJ.out.own _ e
        rcases HR2.out.2.1.hi x hx ad had with h2 | h2
        · omega
        · rw [had] at h2
          cases h2
      have HFR := Lib.hid hfar
      have HSI : Hid (SfIn (w.heap.size + 1) none vs w3) := Lib.hid (HR2.out.2.1.high HN0.out (fun ad h => by cases h))
      clear hrv hvi hve hb HJ HQ HC hfb hfar x0 x1
      go_wp2_with (at_builtin; go_loud ((refine wpList_plain rfl fun _ hK => wp_append_all (enc := suL) (size := 2) (w.heap.size + 1) (.tmp 12) (.tmp 16) 49 27 i1 (.agg #[vi 0, .slice none 0 0]) 32 Try.underlying49 HI1.out.1 HI1.out.2.1 HI1.out.2.2.1 HI1.out.2.2.2 rfl (by omega) (fun _ => rfl) suL_one rfl A us.length c (us.flatMap suL) rfl HJ2.out.1.own vs A2 c2 rfl HR2.out.1 (by have := HFB.out; unfold maxLen; omega) (by have := HFB.out; omega) (by have := HN0.out; have := HJ2.out.2.2.2; omega) fun B c3 w5 hown hgr hat => hK _ _ ?_); have HE := Lib.hid (And.intro (HJ2.out.1.app (a := none) HSI.out HFR.out hown hgr hat) (And.intro (HJ2.out.1.new (w := w) (Nat.le_add_right _ _) HJ2.out.2.1 hgr) (HJ2.out.2.2.1.grown hgr (fun e => by have := own_ge HJ2.out.1.own _ e.symm; omega)))); have HSZ := Lib.hid hgr.size; clear hown hgr hat))
      refine ⟨⟨k + 1, us ++ vs, B, c3, by omega, by rw [List.length_append], rfl, ?_, HE.out.2.1, HE.out.2.2, by have := HN0.out; have := HJ2.out.2.2.2; have := HSZ.out; omega⟩, ?_⟩
      · have h1 := HE.out.1
        rw [HR2.out.2.2, HLL.out] at h1
        rw [allTo_succ, List.map_append, List.map_map]
        exact h1
      · simp [intOf]
        omega
    · obtain rfl : k = s.cs.length := by omega
      have HZ := HJ.out.out (H := w.heap.size) (Nat.le_add_right _ _)
      go_wp2_with fail
      go_ret
      exact ⟨HZ, HQ.out.2.1⟩

end Go.Proofs.Ytkenokpobbichaa
