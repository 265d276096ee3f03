/- The turns of the tools that have some. -/
import Derived.Test.YtpmafnifgegfbaaO
import Derived.Test.YtpmafnifgegfbaaH
namespace Go.Proofs.Ytpmafnifgegfbaa
open Go.RowKit Go.Shelf Go.Deep

theorem info_int : (Try.prog.info? 3).map (fun i => (i.zero, i.size, i.bytes)) = some (some (.int .i64 0), 1, 8) := by kernel_rfl
theorem turL_snoc {ts : List Tl} {ks : List (Option Int)} {k : Nat} {t : Tl} {o : Option Int} (ht : ts[k]? = some t) (ho : ks[k]? = some o) : turL (ts.take (k + 1)) (ks.take (k + 1)) = turL (ts.take k) (ks.take k) ++ (if t.turn = 0 then [] else [o.getD 0]) := by
  have h1 := (List.getElem?_eq_some_iff.1 ht).1
  have h2 := (List.getElem?_eq_some_iff.1 ho).1
  rw [List.take_add_one, List.take_add_one, ht, ho, Option.toList_some, Option.toList_some, turL_append _ _ _ _ (by rw [List.length_take, List.length_take]; omega)]
  congr 1
theorem turL_few : ∀ (ts : List Tl) (ks : List (Option Int)), (turL ts ks).length ≤ ts.length
  | [], _ => Nat.le_refl _
  | _ :: _, [] => Nat.zero_le _
  | t :: ts, k :: ks => by
    have h := turL_few ts ks
    rw [turL]
    split
    · rw [List.length_cons]; omega
    · rw [List.length_cons, List.length_cons]; omega
theorem own_app {w W W' : World} {b : Nat} {t : TypeId} {cs : Array Value} (h : newer w W ∧ Whole W b t cs) (hb : t ≠ 3) {A : Option Addr} {n c g2 c2 : Nat} {xs : List Value} (ho : W.ownsRow w.heap.size 3 1 (.slice A n c) n xs) (hw : (A = some ⟨g2, 0, none⟩ ∧ c2 = c ∧ W.grownBy W' (some g2)) ∨ (W.heap.size ≤ g2 ∧ W.grownBy W' none)) : newer w W' ∧ Whole W' b t cs := by
  have hgr : W.grownBy W' (Value.slice A n c).ownBlock := by
    rcases hw with ⟨h1, _, h3⟩ | ⟨_, h3⟩
    · rw [h1]; exact h3
    · exact h3.but _
  refine ⟨?_, h.2.grown hgr (fun e => own_ne ho h.2 (fun e2 => hb e2.symm) e.symm)⟩
  rcases hw with ⟨h1, _, h3⟩ | ⟨_, h3⟩
  · exact Below.trans h.1 (below_of_grown h3 (own_ge ho g2 (by rw [h1]; rfl)) h.1.size)
  · exact newer_trans h.1 (below_grown h3 (fun q e => by cases e) (Nat.le_refl _))
set_option maxRecDepth 100000 in
set_option maxHeartbeats 2000000 in
theorem turned_any (y : Sm) (ks : List (Option Int)) (ka : Option Addr) (kc : Nat) (w : World) (hok : SmOk y w) (hfew : y.s.tools.length ≤ 8) (hkl : ks.length = y.s.tools.length) (hks : Row koL 1 w w.heap.size ka ks) (hso : ∀ (j : Nat) (t : Tl), y.s.tools[j]? = some t → t.turn ≠ 0 → ∃ v, ks[j]? = some (some v)) :
    Calls Try.prog 132 #[smV y, .slice ka ks.length kc] w fun e w' => (∃ B d, e = .returned (.slice B (turL y.s.tools ks).length d) ∧ w'.ownsRow w.heap.size 3 1 (.slice B (turL y.s.tools ks).length d) (turL y.s.tools ks).length ((turL y.s.tools ks).map vi)) ∧ newer w w' := by
  have hnw := newer_allocH w (.cells (smC y) 40)
  have hxb := Whole.made w 40 (smC y)
  have H0 := Lib.hid (And.intro hnw hxb)
  have HOK := Lib.hid hok
  have HKS := Lib.hid hks
  have HSO := Lib.hid hso
  have HKL := Lib.hid hkl
  have x2 := hxb.at 2 (v := .slice y.ta y.s.tools.length y.tc) rfl
  obtain ⟨i0, hi0, hz0, hz1, hz2⟩ := info_parts info_int
  have HI := Lib.hid (And.intro hi0 (And.intro hz0 (And.intro hz1 hz2)))
  clear hkl hok hks hso hnw hxb hi0 hz0 hz1 hz2
  go_enter Try.func132, Try.ntmps132
  go_wp2_with fail
  clear x2
  go_loopw [4, 5, 6, 10] (fun s4 _ _ s10 wr => ∃ (k : Nat) (l : List Int) (B : Option Addr) (d : Nat), s10 = vi k ∧ k ≤ y.s.tools.length ∧ l = turL (y.s.tools.take k) (ks.take k) ∧ s4 = .slice B l.length d ∧ wr.ownsRow w.heap.size 3 1 (.slice B l.length d) l.length (l.map vi) ∧ newer w wr ∧ Whole wr w.heap.size 40 (smC y)) (fun _ _ _ s10 _ => y.s.tools.length - (intOf s10).toNat)
  case atStart => exact ⟨0, [], none, 0, rfl, Nat.zero_le _, by simp [turL], rfl, ⟨rfl, .inl ⟨rfl, rfl⟩⟩, H0.out.1, H0.out.2⟩
  case round =>
    obtain ⟨k, l, B, d, rfl, hk, hl, rfl, hown, hnw, hxb⟩ := hrel
    clear H0
    have HL := Lib.hid hl
    have hlb : l.length ≤ 8 := by rw [hl]; have := turL_few (y.s.tools.take k) (ks.take k); rw [List.length_take] at this; omega
    have HJ := Lib.hid (And.intro hnw (And.intro hxb hown))
    clear hl hown hnw hxb
    by_cases hlt : k < y.s.tools.length
    · obtain ⟨t, ht⟩ : ∃ t, y.s.tools[k]? = some t := ⟨_, List.getElem?_eq_getElem hlt⟩
      obtain ⟨o, ho⟩ : ∃ o, ks[k]? = some o := ⟨_, List.getElem?_eq_getElem (by have := HKL.out; omega)⟩
      have hkk : k < ks.length := by have := HKL.out; omega
      have HS := Lib.hid (turL_snoc ht ho)
      obtain ⟨bt, ot, et, hbt, t0, t1, t2, t3, t4, t5, t6⟩ := row7 (HOK.out.next HJ.out.1).tl ht
      obtain ⟨kb, kf, ek, hkb, k0⟩ := rowO ((HKS.out.below HJ.out.1).more HJ.out.1.size) ho
      have hn1 := newer_allocH wr (.cells (tlC t) 112)
      by_cases hT : t.turn = 0
      · have HN := Lib.hid (show l = turL (y.s.tools.take (k + 1)) (ks.take (k + 1)) by rw [HS.out, if_pos hT, List.append_nil, HL.out])
        have hn0 := newer_allocH wr (.cells #[vi t.spot, vi t.a, vi t.b, vi 0, vi t.err, vi t.drift, vi t.since] 112)
        have HE := Lib.hid (And.intro (own_below HJ.out.2.2 hn0) (And.intro (newer_trans HJ.out.1 hn0) (HJ.out.2.1.below hn0 HJ.out.2.1.lt)))
        rw [hT] at t3
        clear hn0
        have HET := Lib.hid et
        rw [et]
        clear et
        subst ek
        clear hn1 ht ho hbt hkb
        go_wp2_with fail
        refine ⟨⟨k + 1, l, B, d, rfl, by omega, HN.out, rfl, HE.out.1, HE.out.2.1, HE.out.2.2⟩, ?_⟩
        simp [intOf]
        omega
      · obtain ⟨v, hv⟩ := HSO.out k t ht hT
        rw [ho] at hv
        injection hv with hv
        subst hv
        have HN := Lib.hid (show l ++ [v] = turL (y.s.tools.take (k + 1)) (ks.take (k + 1)) by rw [HS.out, if_neg hT, HL.out]; rfl)
        have k1 := keep_cell k0 hn1
        have hn2 := newer_trans hn1 (newer_allocH (wr.alloc (.cells (tlC t) 112)) (.cells #[vi v] 3))
        have HO := Lib.hid (own_below HJ.out.2.2 hn2)
        have HJ3 := Lib.hid (And.intro (newer_trans HJ.out.1 hn2) (HJ.out.2.1.below hn2 HJ.out.2.1.lt))
        have HCW : Hid (((wr.alloc (.cells (tlC t) 112)).alloc (.cells #[vi v] 3)).cell? ⟨wr.heap.size + 1, 0, none⟩ = some (vi v)) := Lib.hid (by have h := Whole.made (wr.alloc (.cells (tlC t) 112)) 3 #[vi v]; simp only [World.size_alloc] at h; exact h.at 0 rfl)
        have HLB := Lib.hid hlb
        rw [show koN (some v) = v from rfl] at k0 k1
        have HET := Lib.hid et
        rw [et]
        clear et
        subst ek
        clear hn1 hn2 ht ho hbt hkb
        go_wp2_with (at_builtin; go_loud ((refine wpList_plain rfl fun _ hK => wp_append_one (.tmp 18) (.tmp 23) 24 rfl w.heap.size 3 i0 (.int .i64 0) 8 Try.underlying24 HI.out.1 HI.out.2.1 HI.out.2.2.1 HI.out.2.2.2 rfl B l.length d (l.map vi) rfl HO.out ⟨wr.heap.size + 1, 0, none⟩ 1 (vi v) rfl HCW.out rfl (by have := HLB.out; unfold maxLen; omega) (by have := HLB.out; omega) HJ3.out.1.size fun g2 c2 w5 hown hwh => hK _ _ ?_); have HE := Lib.hid (And.intro hown (own_app HJ3.out (by decide) HO.out hwh)); clear hown hwh))
        go_roundw
        case rel =>
          refine ⟨k + 1, l ++ [v], some ⟨g2, 0, none⟩, c2, by go_num, by omega, HN.out, by rw [List.length_append]; rfl, ?_, HE.out.2.1, HE.out.2.2⟩
          have h1 := HE.out.1
          rw [List.length_append, List.map_append]
          exact h1
        case measure => simp [intOf]; omega
    · obtain rfl : k = y.s.tools.length := by omega
      have e : l = turL y.s.tools ks := by rw [HL.out, List.take_of_length_le (Nat.le_refl _), List.take_of_length_le (by have := HKL.out; omega)]
      subst e
      go_wp2_with fail
      go_ret
      exact ⟨⟨B, d, rfl, HJ.out.2.2⟩, HJ.out.1⟩

end Go.Proofs.Ytpmafnifgegfbaa
