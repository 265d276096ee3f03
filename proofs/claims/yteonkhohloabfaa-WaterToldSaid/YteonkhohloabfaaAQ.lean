/- Lists of numbers: copies (list, Truth, Clone, now), and whether two are the same (ints). -/
import Derived.Test.YteonkhohloabfaaAG
import Derived.Laws.Cover3
import Derived.Test.YteonkhohloabfaaAA
namespace Go.Proofs.Yteonkhohloabfaa
open Go.RowKit

/-- append of a list, perhaps empty, onto an empty row without room. -/
theorem wp_append_list {w : World} {o : Oper} {a : Act} {K : Act → World → Prop} {Q : Exit → Act → World → Prop} (s x : Operand)
    (ho : o.op = .call { callee := .builtin .append, args := #[s, x], argTypes := #[43, 43] }) (nb : Nat) (hs : a.eval s = .slice (some ⟨nb, 0, none⟩) 0 0)
    (l : List Int) (A : Option Addr) (cp : Nat) (hx : a.eval x = .slice A l.length cp) (hl : l.length ≤ 1000) (hr : Row intL 1 w w.heap.size A l)
    (h : ∀ B c w', Row intL 1 w' w'.heap.size (some B) l → Below w.heap.size w w' → (B.block = nb ∨ w.heap.size ≤ B.block) → K (a.put o.dst (.slice (some B) l.length c)) w') : Oper.wp Try.prog o a w K Q := by
  obtain ⟨i0, hi0, hz0, hz1, hz2⟩ := info_parts Try.info3
  rcases Nat.eq_zero_or_pos l.length with h0 | hpos
  · obtain rfl : l = [] := List.eq_nil_of_length_eq_zero h0
    have hrun : (Builtin.append_ #[43, 43] o.type #[.slice (some ⟨nb, 0, none⟩) 0 0, .slice A 0 cp]).run Try.prog w = .ok (.slice (some ⟨nb, 0, none⟩) 0 0) w := by
      have hu := run_underlying (P := Try.prog) (w := w) Try.underlying43
      rcases A with _ | ad <;> simp [Builtin.append_, hu, sizeOf, typeInfo, hi0, Builtin.lenOf, Builtin.firstCells, loadCells, loadCellsFrom, storeCells]
    unfold Oper.wp
    simp [execOp, ho, resolve, invoke, builtin, hs, hx, hrun, Result.andThen]
    exact h _ _ w (Row.nil _) (Below.refl _ _) (.inl rfl)
  · obtain ⟨b, off, rfl, hb, hc⟩ := hr (by intro e; rw [e] at hpos; simp at hpos)
    refine wp_append_new s x 43 ho 3 i0 (.int .i64 0) 1 8 Try.underlying43 hi0 hz0 hz1 hz2 rfl (by omega) ⟨nb, 0, none⟩ hs ⟨b, off, none⟩ l.length cp (l.flatMap intL) hx (by rw [flat_len (enc := intL) (s := 1) (fun _ => rfl)]) (row_news (enc := intL) (s := 1) (by omega) (fun _ => rfl) hr) hpos (by unfold maxLen; omega) (by omega) ?_
    intro gg cap w' hown hbl
    exact h _ _ w' (row_of_own (by omega) (fun _ => rfl) hown) hbl (.inr (own_ge_slice hown))
theorem wpList_append_list {w : World} {ops : Array Oper} {rest : List Oper} {o : Oper} {a : Act} {Q : Exit → Act → World → Prop} (hgd : o.guard = none) (s x : Operand)
    (ho : o.op = .call { callee := .builtin .append, args := #[s, x], argTypes := #[43, 43] }) (nb : Nat) (hs : a.eval s = .slice (some ⟨nb, 0, none⟩) 0 0)
    (l : List Int) (A : Option Addr) (cp : Nat) (hx : a.eval x = .slice A l.length cp) (hl : l.length ≤ 1000) (hr : Row intL 1 w w.heap.size A l)
    (h : ∀ B c w', Row intL 1 w' w'.heap.size (some B) l → Below w.heap.size w w' → (B.block = nb ∨ w.heap.size ≤ B.block) → wpList Try.prog ops Q rest (a.put o.dst (.slice (some B) l.length c)) w') : wpList Try.prog ops Q (o :: rest) a w :=
  wpList_plain hgd fun _ hK => wp_append_list s x ho nb hs l A cp hx hl hr fun B c w' h1 h2 h3 => hK _ _ (h B c w' h1 h2 h3)

theorem slice43_some (b off n cp : Nat) (w : World) : (binOp .eql 43 (.slice (some ⟨b, off, none⟩) n cp) (.slice none 0 0)).run Try.prog w = .ok (.bool false) w := by
  simp only [binOp]
  simp [run_equal_slice_nil w 43 3 (some ⟨b, off, none⟩) n cp Try.underlying43]

/-- A list copied. -/
def copied (w : World) (l : List Int) (e : Ending) (w' : World) : Prop := ∃ A c, e = .returned (.slice A l.length c) ∧ Row intL 1 w' w'.heap.size A l ∧ Below w.heap.size w w' ∧ ∀ a, A = some a → w.heap.size ≤ a.block
set_option maxRecDepth 100000 in
set_option maxHeartbeats 1000000 in
theorem lawList (l : List Int) (A : Option Addr) (cp : Nat) (w : World) (hl : l.length ≤ 1000) (hr : Row intL 1 w w.heap.size A l) : Calls Try.prog 69 #[.slice A l.length cp] w (copied w l) := by
  have HR := Lib.hid (row_alloc hr (.cells #[] 3))
  clear hr
  go_enter Try.func69, Try.ntmps69
  go_wp2_with (at_builtin; go_loud ((refine wpList_append_list rfl (.tmp 3) (.tmp 4) rfl w.heap.size rfl l A cp rfl hl HR.out ?_); intro B c w' hB hb hge; have HB := Lib.hid (And.intro hB (And.intro ((((Below.refl w.heap.size w).alloc (Nat.le_refl _) (.cells #[] 3))).trans (hb.mono (by simp))) (show w.heap.size ≤ B.block by simp at hge; omega))); clear hB hb hge))
  go_ret
  exact ⟨_, c, rfl, HB.out.1, HB.out.2.1, fun a e => by cases e; exact HB.out.2.2⟩
set_option maxRecDepth 100000 in
set_option maxHeartbeats 1000000 in
theorem clone_any (l : List Int) (b off : Nat) (cp : Nat) (w : World) (hl : l.length ≤ 1000) (hr : Row intL 1 w w.heap.size (some ⟨b, off, none⟩) l) : Calls Try.prog 92 #[.slice (some ⟨b, off, none⟩) l.length cp] w (copied w l) := by
  have HR := Lib.hid (row_alloc hr (.cells #[] 3))
  clear hr
  have hnil := fun W => slice43_some b off l.length cp W
  go_enter Try.func92, Try.ntmps92
  go_wp2_with (at_builtin; go_loud ((refine wpList_append_list rfl (.tmp 5) (.tmp 6) rfl w.heap.size rfl l (some ⟨b, off, none⟩) cp rfl hl HR.out ?_); intro B2 c w' hB hb hge; have HB := Lib.hid (And.intro hB (And.intro ((((Below.refl w.heap.size w).alloc (Nat.le_refl _) (.cells #[] 3))).trans (hb.mono (by simp))) (show w.heap.size ≤ B2.block by simp at hge; omega))); clear hB hb hge))
  go_ret
  exact ⟨_, c, rfl, HB.out.1, HB.out.2.1, fun a e => by cases e; exact HB.out.2.2⟩

/-- Two lists are the same up to k. -/
def goodTo2 (l m : List Int) (k : Nat) : Prop := ∀ j, j < k → l[j]? = m[j]?
theorem goodTo2_succ {l m : List Int} {k : Nat} (h : goodTo2 l m k) (hk : l[k]? = m[k]?) : goodTo2 l m (k + 1) := fun j hj => by
  rcases Nat.lt_or_ge j k with h1 | h1
  · exact h j h1
  · obtain rfl : j = k := by omega
    exact hk
theorem goodTo2_all {l m : List Int} {k : Nat} (hl : l.length = m.length) (h : goodTo2 l m k) (hk : l.length ≤ k) : l = m := by
  apply List.ext_getElem?
  intro i
  by_cases hi : i < k
  · exact h i hi
  · rw [List.getElem?_eq_none (by omega), List.getElem?_eq_none (by omega)]
set_option maxRecDepth 100000 in
set_option maxHeartbeats 1000000 in
theorem lawInts (l m : List Int) (A B : Option Addr) (cp dp : Nat) (w : World) (hl : l.length ≤ 1000) (_ : m.length ≤ 1000) (hr : Row intL 1 w w.heap.size A l) (hs : Row intL 1 w w.heap.size B m) :
    Calls Try.prog 36 #[.slice A l.length cp, .slice B m.length dp] w fun e w' => e = .returned (.bool (decide (l = m))) ∧ Below w.heap.size w w' := by
  have HR := Lib.hid hr
  have HS := Lib.hid hs
  clear hr hs
  by_cases hlen : l.length = m.length
  case neg =>
    have hb0 : (l.length == m.length) = false := by simpa using hlen
    have hb1 : (l.length != m.length) = true := by simpa using hlen
    have hb2 : ((l.length : Int) == (m.length : Int)) = false := by simp; omega
    have hb3 : ((l.length : Int) != (m.length : Int)) = true := by simp; omega
    have HF := Lib.hid (show decide (l = m) = false from decide_eq_false (fun e => hlen (by rw [e])))
    clear hlen
    go_enter Try.func36, Try.ntmps36
    go_wp2_with fail
    go_ret
    exact ⟨by rw [HF.out]; rfl, Below.refl _ _⟩
  case pos =>
    have HLE := Lib.hid hlen
    obtain ⟨n, hn⟩ : ∃ n, n = l.length := ⟨_, rfl⟩
    rw [← hlen, ← hn]
    have HN := Lib.hid hn
    rw [← hn] at hl
    clear hlen hn
    go_enter Try.func36, Try.ntmps36
    go_wp2_with fail
    go_loopw [5] (fun s5 wr => ∃ k : Nat, k ≤ n ∧ s5 = .int .i64 k ∧ newer w wr ∧ goodTo2 l m k) (fun s5 _ => n - (intOf s5).toNat)
    case atStart => exact ⟨0, Nat.zero_le _, rfl, Below.refl _ _, fun _ h => by omega⟩
    case round =>
      obtain ⟨k, hk, rfl, hnw, he⟩ := hrel
      have HE := Lib.hid he
      clear he
      by_cases hlt : k < n
      · obtain ⟨x, hx⟩ := get_of_lt (l := l) (k := k) (by have := HN.out; omega)
        obtain ⟨y, hy⟩ := get_of_lt (l := m) (k := k) (by have := HN.out; have := HLE.out; omega)
        obtain ⟨ab, ao, rfl, _, ha⟩ := row1 (HR.out.below hnw) hx
        obtain ⟨bb, bo, rfl, _, hb⟩ := row1 (HS.out.below hnw) hy
        have hkn : (k : Int) < n := by omega
        have HXY := Lib.hid (And.intro hx hy)
        have HNW := Lib.hid hnw
        clear hx hy hnw
        cases hxy : (x == y)
        · have hxn : (x != y) = true := by simp [bne, hxy]
          have HF := Lib.hid (show decide (l = m) = false from decide_eq_false (fun e => by
            have h1 := HXY.out.1
            rw [e, HXY.out.2] at h1
            injection h1 with h1
            rw [h1] at hxy
            simp at hxy))
          go_wp2_with fail
          go_quiet (fail)
          go_wp2_with fail
          go_ret
          exact ⟨by rw [HF.out]; rfl, newer_trans HNW.out (newer_drewN _ _)⟩
        · have hxn : (x != y) = false := by simp [bne, hxy]
          have HF := Lib.hid (show goodTo2 l m (k + 1) from goodTo2_succ HE.out (by rw [HXY.out.1, HXY.out.2]; simpa using hxy))
          go_wp2_with fail
          go_quiet (fail)
          go_wp2_with fail
          go_roundw
          case rel => exact ⟨k + 1, by omega, by go_num, newer_trans HNW.out (newer_drewN _ _), HF.out⟩
          case measure => simp [intOf]; omega
      · have HF := Lib.hid (show decide (l = m) = true from decide_eq_true (goodTo2_all (by have := HN.out; have := HLE.out; omega) (HE.out) (by have := HN.out; omega)))
        have HNW := Lib.hid hnw
        clear hnw
        go_wp2_with fail
        go_ret
        exact ⟨by rw [HF.out]; rfl, HNW.out⟩

theorem genQ {P : Program} {c : Code} {Q : Exit → Act → World → Prop} {a : Act} {w : World} (F : World → Prop) (hF : F w) (h : ∀ w', F w' → Code.wp P c Q a w') : Code.wp P c Q a w := h w hF
/-- A copy made since. -/
def vCp (H : Nat) (l : List Int) (v : Value) (W : World) : Prop := ∃ A c, v = .slice A l.length c ∧ Row intL 1 W W.heap.size A l ∧ ∀ a, A = some a → H ≤ a.block
theorem vCp_st {H : Nat} {l : List Int} : ∀ v W W', vCp H l v W → newer W W' → vCp H l v W' := fun _ _ _ ⟨A, c, h1, h2, h3⟩ hb => ⟨A, c, h1, (h2.below hb).more hb.size, h3⟩
theorem row_set {α : Type} {enc : α → List Value} {s : Nat} {X : World} {A : Option Addr} {l : List α} (h : Row enc s X X.heap.size A l) (p : Addr) (u : Value) (hne : ∀ a, A = some a → a.block ≠ p.block) : Row enc s (X.setCell p u) (X.setCell p u).heap.size A l := fun hl => by
  obtain ⟨b, off, e, hb, hc⟩ := h hl
  have hp : b ≠ p.block := hne _ e
  exact ⟨b, off, e, by simpa [World.setCell] using hb, fun k x hx j v hv => (World.cell?_of_block (Below.heap_setCell X p u b hp)).trans (hc k x hx j v hv)⟩
def vTrH (H : Nat) (snow soak : Int) (lv rn : List Int) (v : Value) (W : World) : Prop := ∃ L lp R rp, v = truthV snow soak L lv.length lp R rn.length rp ∧ (Row intL 1 W W.heap.size L lv ∧ ∀ a, L = some a → H ≤ a.block) ∧ (Row intL 1 W W.heap.size R rn ∧ ∀ a, R = some a → H ≤ a.block)
theorem vTrH_st {H : Nat} {snow soak : Int} {lv rn : List Int} : ∀ v W W', vTrH H snow soak lv rn v W → newer W W' → vTrH H snow soak lv rn v W' := fun _ _ _ ⟨L, lp, R, rp, h1, ⟨h2, h4⟩, h3, h5⟩ hb => ⟨L, lp, R, rp, h1, ⟨(h2.below hb).more hb.size, h4⟩, (h3.below hb).more hb.size, h5⟩
def vTr (snow soak : Int) (lv rn : List Int) (v : Value) (W : World) : Prop := ∃ L lp R rp, v = truthV snow soak L lv.length lp R rn.length rp ∧ Row intL 1 W W.heap.size L lv ∧ Row intL 1 W W.heap.size R rn
theorem vTr_st {snow soak : Int} {lv rn : List Int} : ∀ v W W', vTr snow soak lv rn v W → newer W W' → vTr snow soak lv rn v W' := fun _ _ _ ⟨L, lp, R, rp, h1, h2, h3⟩ hb => ⟨L, lp, R, rp, h1, (h2.below hb).more hb.size, (h3.below hb).more hb.size⟩
def truthOut (w : World) (snow soak : Int) (lv rn : List Int) (e : Ending) (w' : World) : Prop := (∃ v, e = .returned v ∧ vTr snow soak lv rn v w') ∧ Below w.heap.size w w'
set_option maxRecDepth 100000 in
set_option maxHeartbeats 1000000 in
theorem lawTruth (snow soak : Int) (lv rn : List Int) (L : Option Addr) (lp : Nat) (R : Option Addr) (rp : Nat) (w : World) (hl : lv.length ≤ 1000) (hr : rn.length ≤ 1000) (hL : Row intL 1 w w.heap.size L lv) (hR : Row intL 1 w w.heap.size R rn) :
    Calls Try.prog 33 #[truthV snow soak L lv.length lp R rn.length rp] w (truthOut w snow soak lv rn) := by
  have HL := Lib.hid hL
  have HR := Lib.hid hR
  clear hL hR
  go_enter Try.func33, Try.ntmps33
  go_wp2_with fail
  refine genQ (fun W => Below w.heap.size w W ∧ Whole W w.heap.size 47 #[vi snow, vi soak, .slice L lv.length lp, .slice R rn.length rp] ∧ Whole W (w.heap.size + 1) 63 #[vi 0, vi 0, .slice none 0 0, .slice none 0 0]) ⟨((Below.refl _ _).alloc (Nat.le_refl _) _).alloc (by simp) _, (Whole.made w 47 _).alloc _, ?_⟩ ?_
  · have := Whole.made (w.alloc (.cells #[vi snow, vi soak, .slice L lv.length lp, .slice R rn.length rp] 47)) 63 #[vi 0, vi 0, .slice none 0 0, .slice none 0 0]
    rw [World.size_alloc] at this
    exact this
  rintro wv ⟨hbv, htv, hov⟩
  have t0' := htv.at 0 rfl
  have t1' := htv.at 1 rfl
  have t2' := htv.at 2 rfl
  have t3' := htv.at 3 rfl
  have HQ := Lib.hid (And.intro hbv hov)
  have HLW := Lib.hid hov.lt
  have HRL := Lib.hid (And.intro ((HL.out.below hbv).more hbv.size) ((HR.out.below hbv).more hbv.size))
  clear hbv htv hov HL HR
  refine wp_words (by kernel_rfl) (region_told 11 (by kernel_rfl) (by kernel_rfl) (fun W => Below wv.heap.size wv W) newer (pickD [vIs (.pointer (some ⟨w.heap.size, 0, none⟩)), vIs (vi snow), vIs (.pointer (some ⟨w.heap.size, 1, none⟩)), vIs (vi soak), vIs (.pointer (some ⟨w.heap.size, 2, none⟩)), vIs (.slice L lv.length lp), vCp wv.heap.size lv, vIs (.pointer (some ⟨w.heap.size, 3, none⟩)), vIs (.slice R rn.length rp), vCp wv.heap.size rn, vTrH wv.heap.size snow soak lv rn]) (fun h k => newer_trans h k) (pickD_stable _ ⟨vIs_st, vIs_st, vIs_st, vIs_st, vIs_st, vIs_st, vCp_st, vIs_st, vIs_st, vCp_st, vTrH_st, trivial⟩) (Below.refl _ wv).drew (Below.refl _ _) ?_ ?_)
  · refine ⟨?_, ?_, ?_, ?_, ?_, ?_, ?_, ?_, ?_, ?_, ?_, trivial⟩
    · intro a W hG hR hO hp
      have h1 := hO.slot 1 (by kernel_rfl)
      refine wp_yields (v := .pointer (some ⟨w.heap.size, 0, none⟩)) ?_ ⟨_, rfl, rfl, Below.refl _ _, hG⟩
      simp [slotOf] at h1
      simp [execOp, go_sem, h1]
    · intro a W hG hR hO hp
      have h3 : slotOf a 3 = .pointer (some ⟨w.heap.size, 0, none⟩) := hp.1
      have c0 := keep_cell t0' hG
      refine wp_yields (v := vi snow) ?_ ⟨_, rfl, rfl, Below.refl _ _, hG⟩
      simp [slotOf] at h3
      simp [execOp, go_sem, h3, c0]
    · intro a W hG hR hO hp
      have h1 := hO.slot 1 (by kernel_rfl)
      refine wp_yields (v := .pointer (some ⟨w.heap.size, 1, none⟩)) ?_ ⟨_, rfl, rfl, Below.refl _ _, hG⟩
      simp [slotOf] at h1
      simp [execOp, go_sem, h1]
    · intro a W hG hR hO hp
      have h5 : slotOf a 5 = .pointer (some ⟨w.heap.size, 1, none⟩) := hp.1
      have c0 := keep_cell t1' hG
      refine wp_yields (v := vi soak) ?_ ⟨_, rfl, rfl, Below.refl _ _, hG⟩
      simp [slotOf] at h5
      simp [execOp, go_sem, h5, c0]
    · intro a W hG hR hO hp
      have h1 := hO.slot 1 (by kernel_rfl)
      refine wp_yields (v := .pointer (some ⟨w.heap.size, 2, none⟩)) ?_ ⟨_, rfl, rfl, Below.refl _ _, hG⟩
      simp [slotOf] at h1
      simp [execOp, go_sem, h1]
    · intro a W hG hR hO hp
      have h7 : slotOf a 7 = .pointer (some ⟨w.heap.size, 2, none⟩) := hp.1
      have c0 := keep_cell t2' hG
      refine wp_yields (v := .slice L lv.length lp) ?_ ⟨_, rfl, rfl, Below.refl _ _, hG⟩
      simp [slotOf] at h7
      simp [execOp, go_sem, h7, c0]
    · intro a W hG hR hO hp
      have h8 : slotOf a 8 = .slice L lv.length lp := hp.1
      refine wp_enters (f := 69) (args := #[.slice L lv.length lp]) ?_ ((lawList lv L lp W (by omega) ((HRL.out.1.below hG).more hG.size)).mono ?_)
      · simp [slotOf] at h8
        simp [go_sem, h8]
      · rintro e w' ⟨Ax, cx, rfl, hr2, hb, hge⟩
        exact ⟨_, rfl, _, rfl, ⟨Ax, cx, rfl, hr2, fun a e => Nat.le_trans hG.size (hge a e)⟩, hb, below_next hG hb⟩
    · intro a W hG hR hO hp
      have h1 := hO.slot 1 (by kernel_rfl)
      refine wp_yields (v := .pointer (some ⟨w.heap.size, 3, none⟩)) ?_ ⟨_, rfl, rfl, Below.refl _ _, hG⟩
      simp [slotOf] at h1
      simp [execOp, go_sem, h1]
    · intro a W hG hR hO hp
      have h10 : slotOf a 10 = .pointer (some ⟨w.heap.size, 3, none⟩) := hp.1
      have c0 := keep_cell t3' hG
      refine wp_yields (v := .slice R rn.length rp) ?_ ⟨_, rfl, rfl, Below.refl _ _, hG⟩
      simp [slotOf] at h10
      simp [execOp, go_sem, h10, c0]
    · intro a W hG hR hO hp
      have h11 : slotOf a 11 = .slice R rn.length rp := hp.1
      refine wp_enters (f := 69) (args := #[.slice R rn.length rp]) ?_ ((lawList rn R rp W (by omega) ((HRL.out.2.below hG).more hG.size)).mono ?_)
      · simp [slotOf] at h11
        simp [go_sem, h11]
      · rintro e w' ⟨Ax, cx, rfl, hr2, hb, hge⟩
        exact ⟨_, rfl, _, rfl, ⟨Ax, cx, rfl, hr2, fun a e => Nat.le_trans hG.size (hge a e)⟩, hb, below_next hG hb⟩
    · intro a W hG hR hO hp
      have h4 : slotOf a 4 = vi snow := hp.1
      have h6 : slotOf a 6 = vi soak := hp.2.1
      have h9 := hp.2.2.1
      have h12 := hp.2.2.2.1
      obtain ⟨La, lpa, h9, hra, hga⟩ := h9
      obtain ⟨Ra, rpa, h12, hrb, hgb⟩ := h12
      refine wp_yields (v := truthV snow soak La lv.length lpa Ra rn.length rpa) ?_ ⟨_, rfl, ⟨La, lpa, Ra, rpa, rfl, ⟨hra, hga⟩, hrb, hgb⟩, Below.refl _ _, hG⟩
      simp [slotOf] at h4 h6 h9 h12
      simp [execOp, go_sem, h4, h6, h9, h12]
  · intro W hG hR
    rintro _ rfl _ rfl _ rfl _ rfl _ rfl _ rfl _ ⟨_, _, rfl, _, _⟩ _ rfl _ rfl _ ⟨_, _, rfl, _, _⟩ _ ⟨L2, lp2, R2, rp2, rfl, hrl, hrr⟩
    change wpList _ _ _ _ _ _
    simp only [Act.put, List.setIfInBounds_toArray, List.set_cons_zero, List.set_cons_succ, List.drop_succ_cons, List.drop_zero]
    have hov := (HQ.out.2).below hG (HQ.out.2).lt
    have r0 := hov.at 0 rfl
    have r1 := hov.at 1 rfl
    have r2 := hov.at 2 rfl
    have r3 := hov.at 3 rfl
    have f0 := hov.free 0
    have f1 := hov.free 1
    have f2 := hov.free 2
    have f3 := hov.free 3
    have HX := Lib.hid (And.intro (below_next HQ.out.1 hG) (And.intro hov (And.intro hrl hrr)))
    clear hG hR hrl hrr hov HQ HRL t0' t1' t2' t3'
    go_wp2_with fail
    have c := (((HX.out.2.1.set 0 (vi snow)).set 1 (vi soak)).set 2 (.slice L2 lv.length lp2)).set 3 (.slice R2 rn.length rp2)
    have k0 := c.at 0 rfl
    have k1 := c.at 1 rfl
    have k2 := c.at 2 rfl
    have k3 := c.at 3 rfl
    have s : ∀ {X : World} {u : Value} {i : Nat}, Below w.heap.size w X → Below w.heap.size w (X.setCell ⟨w.heap.size + 1, i, none⟩ u) := fun h => h.setCell (p := ⟨w.heap.size + 1, _, none⟩) (by dsimp only; omega) _
    have hlw := HX.out.2.1.lt
    have hlv : w.heap.size + 1 < wv.heap.size := HLW.out
    have q1 : ∀ a, L2 = some a → a.block ≠ w.heap.size + 1 := fun a e => by have := HX.out.2.2.1.2 a e; omega
    have q2 : ∀ a, R2 = some a → a.block ≠ w.heap.size + 1 := fun a e => by have := HX.out.2.2.2.2 a e; omega
    exact bodyPost_ret (v := truthV snow soak L2 lv.length lp2 R2 rn.length rp2) (by simp [results, Try.results33, go_sem, k0, k1, k2, k3]) rfl ⟨⟨_, rfl, L2, lp2, R2, rp2, rfl, row_set (row_set (row_set (row_set HX.out.2.2.1.1 _ _ q1) _ _ q1) _ _ q1) _ _ q1, row_set (row_set (row_set (row_set HX.out.2.2.2.1 _ _ q2) _ _ q2) _ _ q2) _ _ q2⟩, s (s (s (s HX.out.1)))⟩

set_option maxRecDepth 100000 in
set_option maxHeartbeats 1000000 in
theorem now_any (s : Way) (f : Nat → Int) (snow left : Int) (b : Nat) (w : World) (h : OnWay w b s f snow left) (h8 : s.l.length ≤ 8) :
    Calls Try.prog 68 #[.pointer (some ⟨b, 0, none⟩)] w (copied w ((List.range s.l.length).map f)) := by
  have c0' := h.blk.at 0 (v := .slice s.A s.l.length s.ap) rfl
  have hrow : Row intL 1 w w.heap.size (some ⟨b, 11, none⟩) ((List.range s.l.length).map f) := fun _ => by
    refine ⟨b, 11, rfl, h.blk.lt, fun k x hk j v hv => ?_⟩
    rw [List.getElem?_map] at hk
    obtain ⟨i, hi, rfl⟩ := Option.map_eq_some_iff.1 hk
    obtain ⟨hkl, hki⟩ := List.getElem?_eq_some_iff.1 hi
    rw [List.getElem_range] at hki
    subst hki
    have hk8 : k < s.l.length := by simpa using hkl
    match j, hv with
    | 0, hv =>
      simp at hv
      subst hv
      rw [Nat.mul_one, Nat.add_zero]
      exact h.blk.at (11 + k) (wayCs_level s f snow left (by omega))
    | j + 1, hv => simp at hv
  have HR := Lib.hid hrow
  clear h hrow
  obtain ⟨l, A, ap, slo, shi, klo, khi, melt, days, D, dp, tsnow, soak, levels, L, lp, rain, R, rp⟩ := s
  dsimp only at h8 c0' HR ⊢
  obtain ⟨n, hn⟩ : ∃ n, n = l.length := ⟨_, rfl⟩
  rw [← hn] at h8 c0' HR ⊢
  clear hn
  have hn8 : (n : Int) ≤ 8 := by omega
  go_enter Try.func68, Try.ntmps68
  go_wp2_with fail
  refine wp_words (by kernel_rfl) (region_told 11 (by kernel_rfl) (by kernel_rfl) (fun W => Below w.heap.size w W) newer (pickD [vIs (.pointer (some ⟨b, 0, none⟩)), vIs (.pointer (some ⟨b, 0, none⟩)), vIs (.pointer (some ⟨b, 11, none⟩)), vIs (.pointer (some ⟨b, 0, none⟩)), vIs (.pointer (some ⟨b, 0, none⟩)), vIs (.pointer (some ⟨b, 0, none⟩)), vIs (.pointer (some ⟨b, 0, none⟩)), vIs (.slice A n ap), vIs (.int .i64 n), vIs (.slice (some ⟨b, 11, none⟩) n 8), vCp w.heap.size ((List.range n).map f)]) (fun h k => newer_trans h k) (pickD_stable _ ⟨vIs_st, vIs_st, vIs_st, vIs_st, vIs_st, vIs_st, vIs_st, vIs_st, vIs_st, vIs_st, vCp_st, trivial⟩) (Below.refl _ w).drew (Below.refl _ _) ?_ ?_)
  · refine ⟨?_, ?_, ?_, ?_, ?_, ?_, ?_, ?_, ?_, ?_, ?_, trivial⟩
    · intro a W hG hR hO hp
      have h0 := hO.slot 0 (by kernel_rfl)
      refine wp_yields (v := .pointer (some ⟨b, 0, none⟩)) ?_ ⟨_, rfl, rfl, Below.refl _ _, hG⟩
      simp [slotOf] at h0
      simp [execOp, go_sem, h0]
    · intro a W hG hR hO hp
      have h3 : slotOf a 3 = .pointer (some ⟨b, 0, none⟩) := hp.1
      refine wp_yields (v := .pointer (some ⟨b, 0, none⟩)) ?_ ⟨_, rfl, rfl, Below.refl _ _, hG⟩
      simp [slotOf] at h3
      simp [execOp, go_sem, h3]
    · intro a W hG hR hO hp
      have h4 : slotOf a 4 = .pointer (some ⟨b, 0, none⟩) := hp.1
      refine wp_yields (v := .pointer (some ⟨b, 11, none⟩)) ?_ ⟨_, rfl, rfl, Below.refl _ _, hG⟩
      simp [slotOf] at h4
      simp [execOp, go_sem, h4]
    · intro a W hG hR hO hp
      have h0 := hO.slot 0 (by kernel_rfl)
      refine wp_yields (v := .pointer (some ⟨b, 0, none⟩)) ?_ ⟨_, rfl, rfl, Below.refl _ _, hG⟩
      simp [slotOf] at h0
      simp [execOp, go_sem, h0]
    · intro a W hG hR hO hp
      have h6 : slotOf a 6 = .pointer (some ⟨b, 0, none⟩) := hp.1
      refine wp_yields (v := .pointer (some ⟨b, 0, none⟩)) ?_ ⟨_, rfl, rfl, Below.refl _ _, hG⟩
      simp [slotOf] at h6
      simp [execOp, go_sem, h6]
    · intro a W hG hR hO hp
      have h7 : slotOf a 7 = .pointer (some ⟨b, 0, none⟩) := hp.1
      refine wp_yields (v := .pointer (some ⟨b, 0, none⟩)) ?_ ⟨_, rfl, rfl, Below.refl _ _, hG⟩
      simp [slotOf] at h7
      simp [execOp, go_sem, h7]
    · intro a W hG hR hO hp
      have h8 : slotOf a 8 = .pointer (some ⟨b, 0, none⟩) := hp.1
      refine wp_yields (v := .pointer (some ⟨b, 0, none⟩)) ?_ ⟨_, rfl, rfl, Below.refl _ _, hG⟩
      simp [slotOf] at h8
      simp [execOp, go_sem, h8]
    · intro a W hG hR hO hp
      have h9 : slotOf a 9 = .pointer (some ⟨b, 0, none⟩) := hp.1
      have c0 := keep_cell c0' hG
      refine wp_yields (v := .slice A n ap) ?_ ⟨_, rfl, rfl, Below.refl _ _, hG⟩
      simp [slotOf] at h9
      simp [execOp, go_sem, h9, c0]
    · intro a W hG hR hO hp
      have h10 : slotOf a 10 = .slice A n ap := hp.1
      refine wp_yields (v := .int .i64 n) ?_ ⟨_, rfl, rfl, Below.refl _ _, hG⟩
      simp [slotOf] at h10
      simp [go_sem, h10]
    · intro a W hG hR hO hp
      have h5 : slotOf a 5 = .pointer (some ⟨b, 11, none⟩) := hp.1
      have h11 : slotOf a 11 = .int .i64 n := hp.2.1
      refine wp_yields (v := .slice (some ⟨b, 11, none⟩) n 8) ?_ ⟨_, rfl, rfl, Below.refl _ _, hG⟩
      simp [slotOf] at h5 h11
      simp [execOp, go_sem, h5, h11, hn8]
    · intro a W hG hR hO hp
      have h12 : slotOf a 12 = .slice (some ⟨b, 11, none⟩) n 8 := hp.1
      have hcl := clone_any ((List.range n).map f) b 11 8 W (by simp; omega) ((HR.out.below hG).more hG.size)
      rw [show ((List.range n).map f).length = n by simp] at hcl
      refine wp_enters (f := 92) (args := #[.slice (some ⟨b, 11, none⟩) n 8]) ?_ (hcl.mono ?_)
      · simp [slotOf] at h12
        simp [go_sem, h12]
      · rintro e w' ⟨Ax, cx, rfl, hr2, hb, hge⟩
        exact ⟨_, rfl, _, rfl, ⟨Ax, cx, by simp, hr2, fun a e => Nat.le_trans hG.size (hge a e)⟩, hb, below_next hG hb⟩
  · intro W hG hR
    rintro _ rfl _ rfl _ rfl _ rfl _ rfl _ rfl _ rfl _ rfl _ rfl _ rfl _ ⟨A2, c2, rfl, hrx, hge⟩
    change wpList _ _ _ _ _ _
    simp only [Act.put, List.setIfInBounds_toArray, List.set_cons_zero, List.set_cons_succ, List.drop_succ_cons, List.drop_zero]
    have HX := Lib.hid (And.intro hG (And.intro hrx hge))
    clear hG hR hrx hge c0'
    go_wp2_with fail
    go_ret
    exact ⟨A2, c2, rfl, HX.out.2.1, HX.out.1, HX.out.2.2⟩

end Go.Proofs.Yteonkhohloabfaa
