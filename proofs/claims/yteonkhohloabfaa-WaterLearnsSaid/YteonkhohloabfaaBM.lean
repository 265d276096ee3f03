/- What all readings allow, by cell and day. -/
import Derived.Test.YteonkhohloabfaaBK
import Derived.Test.YteonkhohloabfaaBL
namespace Go.Proofs.Yteonkhohloabfaa
open Go.RowKit Go.Shelf

abbrev spotK (p : Int × Int) : Value := .agg #[vi p.1, vi p.2]
theorem spot_eq (a b : Int × Int) (W : World) : (Op.equal 142 (spotK a) (spotK b)).run Try.prog W = .ok (decide (a = b)) W := by
  obtain ⟨a1, a2⟩ := a
  obtain ⟨b1, b2⟩ := b
  have e : decide ((a1, a2) = (b1, b2)) = (a1 == b1 && a2 == b2) := by
    rw [Bool.eq_iff_iff]
    simp
  rw [e]
  simp [Op.equal, Op.maxDepth, go_sem]
  by_cases h1 : a1 = b1 <;> by_cases h2 : a2 = b2 <;> simp [h1, h2]
theorem spot_check (c : Bool) (a : Int × Int) (W : World) : (Instr.checkKey c 10000 142 (spotK a)).run Try.prog W = .ok () W := by
  have h : ∀ n, (Instr.checkKey c (n + 2) 142 (spotK a)).run Try.prog W = .ok () W := by
    intro n
    simp [Instr.checkKey, run_underlying Try.underlying142, run_underlying Try.underlying3, go_sem]
  exact h 9998
theorem spot_bits (a : Int × Int) : Instr.sameBits 10000 (spotK a) (spotK a) = true := by
  have h : ∀ n, Instr.sameBits (n + 1) (spotK a) (spotK a) = true := by
    intro n
    cases n <;> simp [Instr.sameBits]
  exact h 9999
theorem spot_key : EqKey Try.prog 142 spotK := ⟨spot_eq, spot_check, spot_bits, _, Try.underlying142⟩
theorem zero36 (w : World) : (zeroValue 36).run Try.prog w = .ok (.agg #[vi 0, vi 0]) w := by kernel_rfl

/-- What is allowed at a spot, once one reading more is known. -/
def meetR (acc : List ((Int × Int) × (Int × Int))) (x : Rdg) : Int × Int := match atR (x.cell, x.day) acc 0 with
  | some (_, lo, hi) => (mxI lo x.lo, mnI hi x.hi)
  | none => (mxI x.lo x.lo, mnI x.hi x.hi)
def readStep (acc : List ((Int × Int) × (Int × Int))) (x : Rdg) : List ((Int × Int) × (Int × Int)) := putR (x.cell, x.day) (meetR acc x) acc
def readM (l : List Rdg) : List ((Int × Int) × (Int × Int)) := l.foldl readStep []
theorem readM_take (l : List Rdg) {k : Nat} {x : Rdg} (h : l[k]? = some x) : readM (l.take (k + 1)) = readStep (readM (l.take k)) x := by
  obtain ⟨hk, rfl⟩ := List.getElem?_eq_some_iff.1 h
  unfold readM
  rw [List.take_succ_eq_append_getElem hk, List.foldl_append]
  rfl

set_option maxRecDepth 100000 in
set_option maxHeartbeats 2000000 in
theorem read_any (l : List Rdg) (D : Option Addr) (dp : Nat) (w : World) (hm : l.length ≤ 1000) (hd : Row rdgL 4 w w.heap.size D l) :
    Calls Try.prog 76 #[.slice D l.length dp] w fun e w' => e = .returned (.map (some w.heap.size)) ∧ RMap spotK spotK w.heap.size (readM l) w' ∧ Below w.heap.size w w' := by
  have HD := Lib.hid hd
  clear hd
  have hmm := @run_makeMap Try.prog
  go_enter Try.func76, Try.ntmps76
  go_wp2_with fail
  clear hmm
  go_loopw [12] (fun s12 wr => ∃ k : Nat, k ≤ l.length ∧ s12 = .int .i64 k ∧ RMap spotK spotK w.heap.size (readM (l.take k)) wr ∧ Below w.heap.size w wr) (fun s12 _ => l.length - (intOf s12).toNat)
  case atStart => exact ⟨0, Nat.zero_le _, rfl, RMap.made _ _ _, newer_allocH _ _⟩
  case round =>
    obtain ⟨k, hk, rfl, hmap, hbw⟩ := hrel
    by_cases hlt : k < l.length
    · have hkn : (k : Int) < l.length := by omega
      obtain ⟨x, hx⟩ := get_of_lt hlt
      obtain ⟨b, off, rfl, hb, h0, h1, h2, h3⟩ := row4 (HD.out.below hbw) hx
      have HX := Lib.hid (readM_take l hx)
      obtain ⟨acc, hacc⟩ : ∃ acc, acc = readM (l.take k) := ⟨_, rfl⟩
      rw [← hacc] at hmap HX
      have HM := Lib.hid hmap
      have HB := Lib.hid hbw
      have hbs := hbw.size
      clear hx hmap hbw hacc
      cases hh : atR (x.cell, x.day) acc 0 with
      | none =>
        have HH := Lib.hid hh
        have HS : Hid (readM (l.take (k + 1)) = putR (x.cell, x.day) (x.lo, x.hi) acc) := by
          have h := HX.out
          unfold readStep meetR at h
          rw [hh] at h
          simp only [mxI, mnI, Int.lt_irrefl, if_false] at h
          exact Lib.hid h
        clear hh HX
        go_wp2_with (first | (at_lookup; refine wpList_lookup_r _ rfl _ _ 138 true rfl spot_key Try.underlying138 (zero36 _) w.heap.size acc rfl ((HM.out.next (newer_allocH _ _)).next (newer_allocH _ _)) (x.cell, x.day) rfl ?_; simp only [HH.out, Option.map_none, Option.getD_none, Option.isSome_none, if_true]) | (at_mapUpdate; refine wpList_update_r _ rfl _ _ _ 138 rfl spot_key Try.underlying138 w.heap.size acc rfl (((HM.out.next (newer_allocH _ _)).next (newer_allocH _ _)).next (newer_allocH _ _)) (x.cell, x.day) (x.lo, x.hi) rfl rfl ?_; rw [← HS.out]))
        exact ⟨⟨k + 1, by omega, by go_num, (((HM.out.next (newer_allocH _ _)).next (newer_allocH _ _)).next (newer_allocH _ _)).put, below_setBlock (below_next (below_next (below_next HB.out (newer_allocH _ _)) (newer_allocH _ _)) (newer_allocH _ _)) (Nat.le_refl _) _⟩, by (simp only [intOf]; omega)⟩
      | some p =>
        obtain ⟨i, lo, hi⟩ := p
        have HH := Lib.hid hh
        have HS : Hid (readM (l.take (k + 1)) = putR (x.cell, x.day) (mxI lo x.lo, mnI hi x.hi) acc) := by
          have h := HX.out
          unfold readStep meetR at h
          rw [hh] at h
          exact Lib.hid h
        clear hh HX
        by_cases c1 : lo < x.lo <;> by_cases c2 : x.hi < hi
        · have HS2 : Hid (readM (l.take (k + 1)) = putR (x.cell, x.day) (x.lo, x.hi) acc) := by
            have h := HS.out
            unfold mxI mnI at h
            rw [if_pos c1, if_pos c2] at h
            exact Lib.hid h
          clear HS
          go_wp2_with (first | (at_lookup; refine wpList_lookup_r _ rfl _ _ 138 true rfl spot_key Try.underlying138 (zero36 _) w.heap.size acc rfl ((HM.out.next (newer_allocH _ _)).next (newer_allocH _ _)) (x.cell, x.day) rfl ?_; simp only [HH.out, Option.map_some, Option.getD_some, Option.isSome_some, if_true]) | (at_mapUpdate; refine wpList_update_r _ rfl _ _ _ 138 rfl spot_key Try.underlying138 w.heap.size acc rfl (((HM.out.next (newer_allocH _ _)).next (newer_allocH _ _)).next (newer_allocH _ _)) (x.cell, x.day) (x.lo, x.hi) rfl rfl ?_; rw [← HS2.out]))
          exact ⟨⟨k + 1, by omega, by go_num, (((HM.out.next (newer_allocH _ _)).next (newer_allocH _ _)).next (newer_allocH _ _)).put, below_setBlock (below_next (below_next (below_next HB.out (newer_allocH _ _)) (newer_allocH _ _)) (newer_allocH _ _)) (Nat.le_refl _) _⟩, by (simp only [intOf]; omega)⟩
        · have HS2 : Hid (readM (l.take (k + 1)) = putR (x.cell, x.day) (x.lo, hi) acc) := by
            have h := HS.out
            unfold mxI mnI at h
            rw [if_pos c1, if_neg c2] at h
            exact Lib.hid h
          clear HS
          go_wp2_with (first | (at_lookup; refine wpList_lookup_r _ rfl _ _ 138 true rfl spot_key Try.underlying138 (zero36 _) w.heap.size acc rfl ((HM.out.next (newer_allocH _ _)).next (newer_allocH _ _)) (x.cell, x.day) rfl ?_; simp only [HH.out, Option.map_some, Option.getD_some, Option.isSome_some, if_true]) | (at_mapUpdate; refine wpList_update_r _ rfl _ _ _ 138 rfl spot_key Try.underlying138 w.heap.size acc rfl (((HM.out.next (newer_allocH _ _)).next (newer_allocH _ _)).next (newer_allocH _ _)) (x.cell, x.day) (x.lo, hi) rfl rfl ?_; rw [← HS2.out]))
          exact ⟨⟨k + 1, by omega, by go_num, (((HM.out.next (newer_allocH _ _)).next (newer_allocH _ _)).next (newer_allocH _ _)).put, below_setBlock (below_next (below_next (below_next HB.out (newer_allocH _ _)) (newer_allocH _ _)) (newer_allocH _ _)) (Nat.le_refl _) _⟩, by (simp only [intOf]; omega)⟩
        · have HS2 : Hid (readM (l.take (k + 1)) = putR (x.cell, x.day) (lo, x.hi) acc) := by
            have h := HS.out
            unfold mxI mnI at h
            rw [if_neg c1, if_pos c2] at h
            exact Lib.hid h
          clear HS
          go_wp2_with (first | (at_lookup; refine wpList_lookup_r _ rfl _ _ 138 true rfl spot_key Try.underlying138 (zero36 _) w.heap.size acc rfl ((HM.out.next (newer_allocH _ _)).next (newer_allocH _ _)) (x.cell, x.day) rfl ?_; simp only [HH.out, Option.map_some, Option.getD_some, Option.isSome_some, if_true]) | (at_mapUpdate; refine wpList_update_r _ rfl _ _ _ 138 rfl spot_key Try.underlying138 w.heap.size acc rfl (((HM.out.next (newer_allocH _ _)).next (newer_allocH _ _)).next (newer_allocH _ _)) (x.cell, x.day) (lo, x.hi) rfl rfl ?_; rw [← HS2.out]))
          exact ⟨⟨k + 1, by omega, by go_num, (((HM.out.next (newer_allocH _ _)).next (newer_allocH _ _)).next (newer_allocH _ _)).put, below_setBlock (below_next (below_next (below_next HB.out (newer_allocH _ _)) (newer_allocH _ _)) (newer_allocH _ _)) (Nat.le_refl _) _⟩, by (simp only [intOf]; omega)⟩
        · have HS2 : Hid (readM (l.take (k + 1)) = putR (x.cell, x.day) (lo, hi) acc) := by
            have h := HS.out
            unfold mxI mnI at h
            rw [if_neg c1, if_neg c2] at h
            exact Lib.hid h
          clear HS
          go_wp2_with (first | (at_lookup; refine wpList_lookup_r _ rfl _ _ 138 true rfl spot_key Try.underlying138 (zero36 _) w.heap.size acc rfl ((HM.out.next (newer_allocH _ _)).next (newer_allocH _ _)) (x.cell, x.day) rfl ?_; simp only [HH.out, Option.map_some, Option.getD_some, Option.isSome_some, if_true]) | (at_mapUpdate; refine wpList_update_r _ rfl _ _ _ 138 rfl spot_key Try.underlying138 w.heap.size acc rfl (((HM.out.next (newer_allocH _ _)).next (newer_allocH _ _)).next (newer_allocH _ _)) (x.cell, x.day) (lo, hi) rfl rfl ?_; rw [← HS2.out]))
          exact ⟨⟨k + 1, by omega, by go_num, (((HM.out.next (newer_allocH _ _)).next (newer_allocH _ _)).next (newer_allocH _ _)).put, below_setBlock (below_next (below_next (below_next HB.out (newer_allocH _ _)) (newer_allocH _ _)) (newer_allocH _ _)) (Nat.le_refl _) _⟩, by (simp only [intOf]; omega)⟩
    · obtain rfl : k = l.length := by omega
      rw [List.take_of_length_le (Nat.le_refl _)] at hmap
      have HF := Lib.hid (And.intro hmap hbw)
      clear hmap hbw
      go_wp2_with fail
      go_ret
      exact ⟨rfl, HF.out⟩
end Go.Proofs.Yteonkhohloabfaa
