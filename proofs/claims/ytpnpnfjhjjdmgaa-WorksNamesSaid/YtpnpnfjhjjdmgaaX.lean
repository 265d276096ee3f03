/- Lists copied and compared; thin projects. -/
import Derived.Test.YtpnpnfjhjjdmgaaW
namespace Go.Proofs.Ytpnpnfjhjjdmgaa
open Go.RowKit Go.Deep

/-- append of a list, perhaps empty, onto an empty row without room. -/
theorem wp_append_copy {α : Type} {enc : α → List Value} {size : Nat} {P : Program} {w : World} {o : Oper} {a : Act} {K : Act → World → Prop} {Q : Exit → Act → World → Prop} (s x : Operand) (t e : TypeId) (i0 : TypeInfo) (z : Value) (bytes : Nat)
    (ht : P.underlying t = some (.slice e)) (hi0 : P.info? e = some i0) (hz0 : i0.zero = some z) (hz1 : i0.size = size) (hz2 : i0.bytes = bytes) (hzs : z.cells.size = size) (hs0 : 0 < size) (hby : bytes ≤ 1000) (he : ∀ x, (enc x).length = size)
    (ho : o.op = .call { callee := .builtin .append, args := #[s, x], argTypes := #[t, t] }) (nb : Nat) (hs : a.eval s = .slice (some ⟨nb, 0, none⟩) 0 0)
    (l : List α) (A : Option Addr) (cp : Nat) (hx : a.eval x = .slice A l.length cp) (hl : l.length ≤ 1000) (hr : Row enc size w w.heap.size A l)
    (h : ∀ B c w', Row enc size w' w'.heap.size (some B) l → Below w.heap.size w w' → l.length ≤ c → (B.block = nb ∨ w.heap.size ≤ B.block) → K (a.put o.dst (.slice (some B) l.length c)) w') : Oper.wp P o a w K Q := by
  rcases Nat.eq_zero_or_pos l.length with h0 | hpos
  · obtain rfl : l = [] := List.eq_nil_of_length_eq_zero h0
    have hrun : (Builtin.append_ #[t, t] o.type #[.slice (some ⟨nb, 0, none⟩) 0 0, .slice A 0 cp]).run P w = .ok (.slice (some ⟨nb, 0, none⟩) 0 0) w := by
      have hu := run_underlying (P := P) (w := w) ht
      rcases A with _ | ad <;> simp [Builtin.append_, hu, sizeOf, typeInfo, hi0, Builtin.lenOf, Builtin.firstCells, loadCells, loadCellsFrom, storeCells]
    unfold Oper.wp
    simp [execOp, ho, resolve, invoke, builtin, hs, hx, hrun, Result.andThen]
    exact h _ _ w (Row.nil _) (Below.refl _ _) (Nat.le_refl _) (.inl rfl)
  · obtain ⟨b, off, rfl, hb, hc⟩ := hr (by intro e; rw [e] at hpos; simp at hpos)
    refine wp_append_new s x t ho e i0 z size bytes ht hi0 hz0 hz1 hz2 hzs hs0 ⟨nb, 0, none⟩ hs ⟨b, off, none⟩ l.length cp (l.flatMap enc) hx (by rw [flat_len (enc := enc) (s := size) he]) (row_news (enc := enc) (s := size) hs0 he hr) hpos (by unfold maxLen; omega) (by have := Nat.mul_le_mul hl hby; omega) ?_
    intro gg cap w' hown hbl
    exact h _ _ w' (row_of_own hs0 he hown) hbl (own_room hown).1 (.inr (own_ge_slice hown))
/-- A list copied. -/
def copiedC (w : World) (l : List Int) (e : Ending) (w' : World) : Prop := ∃ A c, e = .returned (.slice A l.length c) ∧ l.length ≤ c ∧ Row intL 1 w' w'.heap.size A l ∧ Below w.heap.size w w' ∧ ∀ a, A = some a → w.heap.size ≤ a.block
set_option maxRecDepth 100000 in
set_option maxHeartbeats 1000000 in
theorem lawList (l : List Int) (A : Option Addr) (cp : Nat) (w : World) (hl : l.length ≤ 1000) (hr : Row intL 1 w w.heap.size A l) : Calls Try.prog 21 #[.slice A l.length cp] w (copiedC w l) := by
  have HR := Lib.hid (row_alloc hr (.cells #[] 3))
  obtain ⟨i0, hi0, hz0, hz1, hz2⟩ := info_parts Try.info3w
  have HI := Lib.hid (And.intro hi0 (And.intro hz0 (And.intro hz1 hz2)))
  clear hr hi0 hz0 hz1 hz2
  go_enter Try.func21, Try.ntmps21
  go_wp2_with (at_builtin; go_loud ((refine wpList_plain rfl fun K hK => wp_append_copy (enc := intL) (size := 1) (.tmp 3) (.tmp 4) 25 3 i0 (.int .i64 0) 8 Try.underlying25 HI.out.1 HI.out.2.1 HI.out.2.2.1 HI.out.2.2.2 rfl (by omega) (by omega) (fun _ => rfl) rfl w.heap.size rfl l A cp rfl hl HR.out fun B c w' hB hb hc hge => hK _ _ ?_); have HB := Lib.hid (And.intro hB (And.intro ((((Below.refl w.heap.size w).alloc (Nat.le_refl _) (.cells #[] 3))).trans (hb.mono (by simp))) (And.intro (show w.heap.size ≤ B.block by simp at hge; omega) hc))); clear hB hb hge hc))
  go_ret
  exact ⟨_, _, rfl, HB.out.2.2.2, HB.out.1, HB.out.2.1, fun a e => by cases e; exact HB.out.2.2.1⟩
set_option maxRecDepth 100000 in
set_option maxHeartbeats 1000000 in
theorem lawInts (l m : List Int) (A B : Option Addr) (cp dp : Nat) (w : World) (hl : l.length ≤ 1000) (_ : m.length ≤ 1000) (hr : Row intL 1 w w.heap.size A l) (hs : Row intL 1 w w.heap.size B m) :
    Calls Try.prog 29 #[.slice A l.length cp, .slice B m.length dp] w fun e w' => e = .returned (.bool (decide (l = m))) ∧ Below w.heap.size w w' := by
  have HR := Lib.hid hr
  have HS := Lib.hid hs
  clear hr hs
  by_cases hlen : l.length = m.length
  case neg =>
    have hb0 : (l.length == m.length) = false := by simpa using hlen
    have hb1 : (l.length != m.length) = true := by simpa using hlen
    have hb2 : ((l.length : Int) == (m.length : Int)) = false := by simp; omega
    have hb3 : ((l.length : Int) != (m.length : Int)) = true := by simp; omega
    have HF := Lib.hid (show decide (l = m) = false from decide_eq_false (fun e => hlen (by rw [e])))
    clear hlen
    go_enter Try.func29, Try.ntmps29
    go_wp2_with fail
    go_ret
    exact ⟨by rw [HF.out]; rfl, Below.refl _ _⟩
  case pos =>
    have HLE := Lib.hid hlen
    obtain ⟨n, hn⟩ : ∃ n, n = l.length := ⟨_, rfl⟩
    rw [← hlen, ← hn]
    have HN := Lib.hid hn
    rw [← hn] at hl
    clear hlen hn
    go_enter Try.func29, Try.ntmps29
    go_wp2_with fail
    go_loopw [5] (fun s5 wr => ∃ k : Nat, k ≤ n ∧ s5 = .int .i64 k ∧ newer w wr ∧ goodTo2 l m k) (fun s5 _ => n - (intOf s5).toNat)
    case atStart => exact ⟨0, Nat.zero_le _, rfl, Below.refl _ _, fun _ h => by omega⟩
    case round =>
      obtain ⟨k, hk, rfl, hnw, he⟩ := hrel
      have HE := Lib.hid he
      clear he
      by_cases hlt : k < n
      · obtain ⟨x, hx⟩ := get_of_lt (l := l) (k := k) (by have := HN.out; omega)
        obtain ⟨y, hy⟩ := get_of_lt (l := m) (k := k) (by have := HN.out; have := HLE.out; omega)
        obtain ⟨ab, ao, rfl, _, ha⟩ := row1 (HR.out.below hnw) hx
        obtain ⟨bb, bo, rfl, _, hb⟩ := row1 (HS.out.below hnw) hy
        have hkn : (k : Int) < n := by omega
        have HXY := Lib.hid (And.intro hx hy)
        have HNW := Lib.hid hnw
        clear hx hy hnw
        cases hxy : (x == y)
        · have hxn : (x != y) = true := by simp [bne, hxy]
          have HF := Lib.hid (show decide (l = m) = false from decide_eq_false (fun e => by
            have h1 := HXY.out.1
            rw [e, HXY.out.2] at h1
            injection h1 with h1
            rw [h1] at hxy
            simp at hxy))
          go_wp2_with fail
          go_quiet (fail)
          go_wp2_with fail
          go_ret
          exact ⟨by rw [HF.out]; rfl, newer_trans HNW.out (newer_drewN _ _)⟩
        · have hxn : (x != y) = false := by simp [bne, hxy]
          have HF := Lib.hid (show goodTo2 l m (k + 1) from goodTo2_succ HE.out (by rw [HXY.out.1, HXY.out.2]; simpa using hxy))
          go_wp2_with fail
          go_quiet (fail)
          go_wp2_with fail
          go_roundw
          case rel => exact ⟨k + 1, by omega, by go_num, newer_trans HNW.out (newer_drewN _ _), HF.out⟩
          case measure => simp [intOf]; omega
      · have HF := Lib.hid (show decide (l = m) = true from decide_eq_true (goodTo2_all (by have := HN.out; have := HLE.out; omega) (HE.out) (by have := HN.out; omega)))
        have HNW := Lib.hid hnw
        clear hnw
        go_wp2_with fail
        go_ret
        exact ⟨by rw [HF.out]; rfl, HNW.out⟩


/-- Is a project thin? -/
def thinP (p : Pj) : Bool := p.works.all (fun x => decide (x.adds.length ≤ 10)) && decide (p.works.length ≤ 10) && decide (p.needs.length ≤ 25) && decide (p.villages.length ≤ 8) && decide (p.purses.length ≤ 10)
theorem thin_few {p : Pm} (h : thinP p.pj = true) : PmFew p := by
  unfold thinP at h
  simp only [Bool.and_eq_true, decide_eq_true_eq] at h
  obtain ⟨⟨⟨⟨h1, h2⟩, h3⟩, h4⟩, h5⟩ := h
  have h2 : p.ws.length ≤ 10 := by simpa [Pm.pj] using h2
  have h3 : p.ns.length ≤ 25 := h3
  have h4 : p.vs.length ≤ 8 := h4
  have h5 : p.ps.length ≤ 10 := h5
  refine ⟨by omega, fun x hx => ?_, by omega, by omega, by omega⟩
  have := List.all_eq_true.1 h1 x.d (List.mem_map.2 ⟨x, hx, rfl⟩)
  simp only [decide_eq_true_eq] at this
  omega
set_option maxRecDepth 100000 in
set_option maxHeartbeats 4000000 in
theorem lawThin (p : Pm) (w : World) (hok : PmOk p w) : Calls Try.prog 16 #[pmV p] w fun e w' => e = .returned (.bool (thinP p.pj)) ∧ newer w w' := by
  have hbx := Whole.made w 27 (pmC p)
  have hnw := newer_allocH w (.cells (pmC p) 27)
  have H0 := Lib.hid (And.intro hnw hbx)
  have HOK := Lib.hid hok
  obtain ⟨res, hres⟩ : ∃ res, res = thinP p.pj := ⟨_, rfl⟩
  have HRS := Lib.hid hres
  rw [← hres]
  clear hnw hbx hok hres
  go_enter Try.func16, Try.ntmps16
  go_wp2_with fail
  go_loopw [3] (fun s3 wr => ∃ k : Nat, k ≤ p.ws.length ∧ k ≤ 11 ∧ s3 = .int .i64 k ∧ newer w wr ∧ Whole wr w.heap.size 27 (pmC p) ∧ early (fun x => !decide (x.d.adds.length ≤ 10)) p.ws k) (fun s3 _ => p.ws.length - (intOf s3).toNat)
  case atStart => exact ⟨0, Nat.zero_le _, by omega, rfl, H0.out.1, H0.out.2, early_zero _ _⟩
  case round =>
    obtain ⟨k, hk, hk11, rfl, hbw, hbx, he⟩ := hrel
    clear H0
    have HE := Lib.hid he
    have x2 := hbx.at 2 (v := .slice p.wa p.ws.length p.wc) rfl
    have x3 := hbx.at 3 (v := .slice p.na p.ns.length p.nc) rfl
    have x4 := hbx.at 4 (v := .slice p.va p.vs.length p.vc) rfl
    have x5 := hbx.at 5 (v := .slice p.pa p.ps.length p.pc) rfl
    clear he
    by_cases hlt : k < p.ws.length
    · have hkn : (k : Int) < p.ws.length := by omega
      by_cases h10 : 10 < k
      · have hki : (10 : Int) < k := by omega
        have hrf : res = false := by
          rw [HRS.out]
          unfold thinP
          have : ¬ p.pj.works.length ≤ 10 := by simp only [Pm.pj, List.length_map]; omega
          simp [this]
        have HN := Lib.hid (And.intro hrf hbw)
        clear hbx hbw hrf
        go_wp2_with fail
        go_ret
        exact ⟨by rw [HN.out.1] <;> rfl, HN.out.2⟩
      · have hki : ¬ ((10 : Int) < k) := by omega
        obtain ⟨x, hx⟩ := get_of_lt hlt
        obtain ⟨b2, o2, e2, _, d0, d1, d2, d3, d4, d5⟩ := row6 (HOK.out.next hbw).ws hx
        rw [e2] at x2
        by_cases ha : 10 < x.d.adds.length
        · have hai : (10 : Int) < x.d.adds.length := by omega
          have hrf : res = false := by
            rw [HRS.out]
            unfold thinP
            have : p.pj.works.all (fun x => decide (x.adds.length ≤ 10)) = false := by
              rw [List.all_eq_false]
              exact ⟨x.d, List.mem_map.2 ⟨x, List.mem_of_getElem? hx, rfl⟩, by simp; omega⟩
            rw [this]
            rfl
          have HN := Lib.hid (And.intro hrf hbw)
          clear hbx hbw hrf hx e2
          go_wp2_with fail
          go_ret
          exact ⟨by rw [HN.out.1] <;> rfl, HN.out.2⟩
        · have hai : ¬ ((10 : Int) < x.d.adds.length) := by omega
          have HN := Lib.hid (And.intro hbw (And.intro hbx (early_succ HE.out hx (by simp; omega))))
          clear hbx hbw hx e2
          go_wp2_with fail
          go_roundw
          case rel => exact ⟨k + 1, by omega, by omega, by go_num, HN.out.1, HN.out.2.1, HN.out.2.2⟩
          case measure => simp [intOf]; omega
    · obtain rfl : k = p.ws.length := by omega
      have hkn : ¬ ((p.ws.length : Int) < p.ws.length) := by omega
      have hall : p.pj.works.all (fun x => decide (x.adds.length ≤ 10)) = true := by
        rw [show p.pj.works = p.ws.map (·.d) from rfl, all_map]
        exact all_early HE.out
      have hrv : res = (decide (p.ws.length ≤ 10) && decide (p.ns.length ≤ 25) && decide (p.vs.length ≤ 8) && decide (p.ps.length ≤ 10)) := by
        rw [HRS.out]
        unfold thinP
        have hl : p.pj.works.length = p.ws.length := by simp [Pm.pj]
        rw [hall, hl]
        rfl
      have HN := Lib.hid (And.intro hrv hbw)
      clear hall hrv hbw hbx
      by_cases h1 : p.ws.length ≤ 10
      · have i1 : (p.ws.length : Int) ≤ 10 := by omega
        by_cases h2 : p.ns.length ≤ 25
        · have i2 : (p.ns.length : Int) ≤ 25 := by omega
          by_cases h3 : p.vs.length ≤ 8
          · have i3 : (p.vs.length : Int) ≤ 8 := by omega
            by_cases h4 : p.ps.length ≤ 10
            · have i4 : (p.ps.length : Int) ≤ 10 := by omega
              have hrr : res = true := by
                rw [HN.out.1]
                simp [h1, h2, h3, h4]
              have HRR := Lib.hid hrr
              clear hrr h1 h2 h3 h4
              go_wp2_with fail
              go_ret
              exact ⟨by rw [HRR.out] <;> rfl, HN.out.2⟩
            · have i4 : ¬ ((p.ps.length : Int) ≤ 10) := by omega
              have hrr : res = false := by
                rw [HN.out.1]
                simp [h1, h2, h3, h4]
              have HRR := Lib.hid hrr
              clear hrr h1 h2 h3 h4
              go_wp2_with fail
              go_ret
              exact ⟨by rw [HRR.out] <;> rfl, HN.out.2⟩
          · have i3 : ¬ ((p.vs.length : Int) ≤ 8) := by omega
            have hrr : res = false := by
              rw [HN.out.1]
              simp [h1, h2, h3]
            have HRR := Lib.hid hrr
            clear hrr h1 h2 h3
            go_wp2_with fail
            go_ret
            exact ⟨by rw [HRR.out] <;> rfl, HN.out.2⟩
        · have i2 : ¬ ((p.ns.length : Int) ≤ 25) := by omega
          have hrr : res = false := by
            rw [HN.out.1]
            simp [h1, h2]
          have HRR := Lib.hid hrr
          clear hrr h1 h2
          go_wp2_with fail
          go_ret
          exact ⟨by rw [HRR.out] <;> rfl, HN.out.2⟩
      · have i1 : ¬ ((p.ws.length : Int) ≤ 10) := by omega
        have hrr : res = false := by
          rw [HN.out.1]
          simp [h1]
        have HRR := Lib.hid hrr
        clear hrr h1
        go_wp2_with fail
        go_ret
        exact ⟨by rw [HRR.out] <;> rfl, HN.out.2⟩
end Go.Proofs.Ytpnpnfjhjjdmgaa
