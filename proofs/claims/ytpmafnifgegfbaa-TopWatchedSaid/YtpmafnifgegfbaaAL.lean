/- Ready; Learn and Turns of any survey. -/
import Derived.Test.YtpmafnifgegfbaaAJ0
namespace Go.Proofs.Ytpmafnifgegfbaa
open Go.RowKit Go.Shelf Go.Deep

/-- The error of Learn, and what is known. -/
def learnE (s : Sd) : Int := if errN s = 0 then (if okS s (freeL s) = true then 0 else 9) else errN s
def learnL (s : Sd) : List Sp := if learnE s = 0 then knL s else []
/-- The error of Turns, and the lists. -/
def turnE (s : Sd) : Int := if errN s = 0 then posE (allT s) else errN s
def turnLs (s : Sd) : List (List Int) := if turnE s = 0 then (allT s).map (turL s.tools) else []
theorem learn_all (y : Sm) (w : World) (hok : SmOk y w) (few : SmFew y) : Calls Try.prog 26 #[smV y] w fun e w' => ∃ B d, e = .returned (.tuple #[.slice B (learnL y.s).length d, vi (learnE y.s)]) ∧ w'.ownsRow w.heap.size 56 4 (.slice B (learnL y.s).length d) (learnL y.s).length ((learnL y.s).flatMap spL) ∧ newer w w' := by
  have hnil : ∀ w' : World, w'.ownsRow w.heap.size 56 4 (.slice none 0 0) 0 [] := fun w' => ⟨rfl, .inl ⟨rfl, rfl⟩⟩
  by_cases he : errN y.s = 0
  · cases ho : okS y.s (freeL y.s) with
    | true =>
      have e1 : learnE y.s = 0 := by unfold learnE; rw [if_pos he, if_pos ho]
      have e2 : learnL y.s = knL y.s := by unfold learnL; rw [if_pos e1]
      rw [e1, e2]
      exact learn_ok y w hok few he ho
    | false =>
      have e1 : learnE y.s = 9 := by unfold learnE; rw [if_pos he, if_neg (by rw [ho]; decide)]
      have e2 : learnL y.s = [] := by unfold learnL; rw [if_neg (by rw [e1]; decide)]
      rw [e1, e2]
      exact (learn_bad y w hok few he ho).mono fun e w' ⟨h1, h2⟩ => ⟨none, 0, h1, hnil w', h2⟩
  · have e1 : learnE y.s = errN y.s := by unfold learnE; rw [if_neg he]
    have e2 : learnL y.s = [] := by unfold learnL; rw [if_neg (by rw [e1]; exact he)]
    rw [e1, e2]
    exact (learn_err y w hok few he).mono fun e w' ⟨h1, h2⟩ => ⟨none, 0, h1, hnil w', h2⟩
/-- Lists of numbers, each in a row of its own. -/
structure LlOwn (xs : List Ln) (A : Option Addr) (c : Nat) (B : Nat) (W : World) : Prop where
  row : W.ownsRow B 24 1 (.slice A xs.length c) xs.length (xs.flatMap lnL)
  inn : ∀ x ∈ xs, W.ownsRow B 3 1 (.slice x.a x.l.length x.c) x.l.length (x.l.map vi)
theorem map_vi (l : List Int) : l.flatMap intL = l.map vi := by
  induction l with
  | nil => rfl
  | cons a t ih => rw [List.flatMap_cons, ih]; rfl
theorem LlOwn.ok {xs : List Ln} {A : Option Addr} {c B : Nat} {W : World} (h : LlOwn xs A c B W) : LlOk xs A W :=
  ⟨row_of_own (enc := lnL) (size := 1) (by decide) (fun _ => rfl) h.row, fun x hx => row_of_own (enc := intL) (size := 1) (by decide) (fun _ => rfl) (by rw [map_vi]; exact h.inn x hx)⟩
theorem LlOwn.next {xs : List Ln} {A : Option Addr} {c B : Nat} {W W' : World} (h : LlOwn xs A c B W) (hb : newer W W') : LlOwn xs A c B W' := ⟨own_below h.row hb, fun x hx => own_below (h.inn x hx) hb⟩
theorem turns_all (y : Sm) (w : World) (hok : SmOk y w) (few : SmFew y) : Calls Try.prog 32 #[smV y] w fun e w' => ∃ xs A c, e = .returned (.tuple #[.slice A xs.length c, vi (turnE y.s)]) ∧ xs.map (·.l) = turnLs y.s ∧ LlOwn xs A c w.heap.size w' ∧ newer w w' := by
  have hnil : ∀ w' : World, LlOwn [] none 0 w.heap.size w' := fun w' => ⟨⟨rfl, .inl ⟨rfl, rfl⟩⟩, fun x hx => by cases hx⟩
  by_cases he : errN y.s = 0
  · have e1 : turnE y.s = posE (allT y.s) := by unfold turnE; rw [if_pos he]
    by_cases hp : posE (allT y.s) = 0
    · have e2 : turnLs y.s = (allT y.s).map (turL y.s.tools) := by unfold turnLs; rw [if_pos (e1.trans hp)]
      rw [e2, e1, hp]
      refine (turns_ok y w hok few he hp).mono ?_
      rintro e w' ⟨xs, ls, A1, c1, A2, c2, rfl, h1, h2⟩
      refine ⟨xs, A1, c1, rfl, ?_, ⟨h2.r1, h2.xr⟩, h1⟩
      rw [h2.xl, List.take_of_length_le (posE_ok hp).1]
    · have e2 : turnLs y.s = [] := by unfold turnLs; rw [if_neg (by rw [e1]; exact hp)]
      rw [e2, e1]
      exact (turns_bad y w hok few he hp).mono fun e w' ⟨h1, h2⟩ => ⟨[], none, 0, h1, rfl, hnil w', h2⟩
  · have e1 : turnE y.s = errN y.s := by unfold turnE; rw [if_neg he]
    have e2 : turnLs y.s = [] := by unfold turnLs; rw [if_neg (by rw [e1]; exact he)]
    rw [e2, e1]
    exact (turns_err y w hok few he).mono fun e w' ⟨h1, h2⟩ => ⟨[], none, 0, h1, rfl, hnil w', h2⟩
def readyB (s : Sd) : Bool := thinS s && decide (errN s = 0)
set_option maxRecDepth 100000 in
set_option maxHeartbeats 1000000 in
theorem ready_any (y : Sm) (w : World) (hok : SmOk y w) : Calls Try.prog 36 #[smV y] w fun e w' => e = .returned (.bool (readyB y.s)) ∧ newer w w' := by
  have hnw := newer_allocH w (.cells (smC y) 26)
  have hxb := Whole.made w 26 (smC y)
  have HTH := Lib.hid (lawThin y (w.alloc (.cells (smC y) 26)))
  have HN0 := Lib.hid (And.intro hnw hxb)
  have HOK := Lib.hid hok
  have x0 := hxb.at 0 (v := .slice y.sa y.s.spots.length y.sc) rfl
  have x1 := hxb.at 1 (v := vi y.s.strain) rfl
  have x2 := hxb.at 2 (v := .slice y.ta y.s.tools.length y.tc) rfl
  have x3 := hxb.at 3 (v := vi y.s.day) rfl
  have x4 := hxb.at 4 (v := .slice y.ra y.s.reads.length y.rc) rfl
  unfold readyB
  clear hok hnw hxb
  cases ht : thinS y.s with
  | false =>
    rw [ht] at HTH
    clear ht
    go_enter Try.func36, Try.ntmps36
    go_wp2_with fail
    refine (HTH.out).mono ?_
    rintro e w1 ⟨rfl, hb1⟩
    have HN := Lib.hid (newer_trans HN0.out.1 hb1)
    clear hb1 HTH HN0 x0 x1 x2 x3 x4
    go_wp2_with fail
    go_ret
    exact ⟨rfl, HN.out⟩
  | true =>
    have HFW := Lib.hid (thin_few ht).1
    rw [ht] at HTH
    clear ht
    go_enter Try.func36, Try.ntmps36
    go_wp2_with fail
    refine (HTH.out).mono ?_
    rintro e w1 ⟨rfl, hb1⟩
    have hn := newer_trans HN0.out.1 hb1
    have hw := HN0.out.2.below hb1 HN0.out.2.lt
    have HFA := Lib.hid (refFault_any y w1 (HOK.out.next hn) HFW.out)
    have HN := Lib.hid hn
    clear hb1 HTH HN0 x0 x1 x2 x3 x4 hn
    have x0 := hw.at 0 (v := .slice y.sa y.s.spots.length y.sc) rfl
    have x1 := hw.at 1 (v := vi y.s.strain) rfl
    have x2 := hw.at 2 (v := .slice y.ta y.s.tools.length y.tc) rfl
    have x3 := hw.at 3 (v := vi y.s.day) rfl
    have x4 := hw.at 4 (v := .slice y.ra y.s.reads.length y.rc) rfl
    clear hw
    go_wp2_with fail
    refine (HFA.out).mono ?_
    rintro e w2 ⟨rfl, hb2⟩
    have HE := Lib.hid (newer_trans HN.out hb2)
    clear hb2 HFA x0 x1 x2 x3 x4
    obtain ⟨e, he⟩ : ∃ q, q = errN y.s := ⟨_, rfl⟩
    have HEE := Lib.hid he
    rw [← he]
    clear he
    by_cases h0 : e = 0
    · subst h0
      go_wp2_with fail
      go_ret
      exact ⟨by rw [← HEE.out]; rfl, HE.out⟩
    · have HD := Lib.hid (decide_eq_false h0)
      have hbq : (e == 0) = false := by simpa using h0
      go_wp2_with fail
      go_ret
      exact ⟨by rw [← HEE.out, HD.out]; rfl, HE.out⟩
theorem ready_parts {y : Sm} (h : readyB y.s = true) : SmFew y ∧ SdOk y.s ∧ y.s.spots.length ≤ 10 ∧ y.s.tools.length ≤ 10 ∧ y.s.reads.length ≤ 10 := by
  unfold readyB at h
  rw [Bool.and_eq_true, decide_eq_true_eq] at h
  exact ⟨(thin_few h.1).1, err_iff.1 h.2, (thin_few h.1).2⟩

end Go.Proofs.Ytpmafnifgegfbaa
