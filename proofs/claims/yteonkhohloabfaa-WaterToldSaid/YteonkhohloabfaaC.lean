/- CheckGround and check of the water layer: which error a ground, and a ground with days, has. -/
import Derived.Test.YteonkhohloabfaaB
namespace Go.Proofs.Yteonkhohloabfaa
open Go.RowKit

structure Gnd where
  cells : List Cell
  slo : Int
  shi : Int
  klo : Int
  khi : Int
  melt : Int

def noSelf : List Cell → Nat → Bool
  | [], _ => true
  | c :: l, i => !(c.to == (i : Int)) && noSelf l (i + 1)

theorem noSelf_true (l : List Cell) : ∀ i : Nat, (∀ (j : Nat) (c : Cell), l[j]? = some c → c.to ≠ ((i + j : Nat) : Int)) → noSelf l i = true := by
  induction l with
  | nil => intros; rfl
  | cons c l ih =>
    intro i h
    have h0 := h 0 c rfl
    simp only [noSelf, Bool.and_eq_true, Bool.not_eq_true', beq_eq_false_iff_ne]
    refine ⟨by simpa using h0, ih (i + 1) fun j x hx => ?_⟩
    have := h (j + 1) x (by simpa using hx)
    rw [show i + 1 + j = i + (j + 1) by omega]; exact this

theorem noSelf_spec (l : List Cell) : ∀ i : Nat, noSelf l i = true → ∀ (j : Nat) (c : Cell), l[j]? = some c → c.to ≠ ((i + j : Nat) : Int) := by
  induction l with
  | nil => intro i _ j c h; simp at h
  | cons c l ih =>
    intro i h j x hx
    simp only [noSelf, Bool.and_eq_true, Bool.not_eq_true', beq_eq_false_iff_ne] at h
    cases j with
    | zero => simp at hx; subst hx; simpa using h.1
    | succ j =>
      have := ih (i + 1) h.2 j x (by simpa using hx)
      rw [show i + (j + 1) = i + 1 + j by omega]; exact this

theorem noSelf_false (l : List Cell) (k : Nat) (c : Cell) (hk : l[k]? = some c) (h : c.to = (k : Int)) : noSelf l 0 = false := by
  cases hh : noSelf l 0 with
  | false => rfl
  | true => exact absurd (by simpa using h) (noSelf_spec l 0 hh k c hk)

def selfFree (l : List Cell) (k : Nat) : Prop := ∀ (j : Nat) (c : Cell), j < k → l[j]? = some c → c.to ≠ (j : Int)
theorem selfFree_zero (l : List Cell) : selfFree l 0 := fun _ _ h => by omega
theorem selfFree_succ {l : List Cell} {k : Nat} {c : Cell} (h : selfFree l k) (hk : l[k]? = some c) (hc : c.to ≠ (k : Int)) : selfFree l (k + 1) := fun j x hj hx => by
  rcases Nat.lt_or_ge j k with h1 | h1
  · exact h j x h1 hx
  · obtain rfl : j = k := by omega
    rw [hk] at hx; cases hx; exact hc
theorem selfFree_all {l : List Cell} (h : selfFree l l.length) : noSelf l 0 = true :=
  noSelf_true l 0 fun j c hc => by simpa using h j c (List.getElem?_eq_some_iff.1 hc).1 hc

/-- Is a ground valid? -/
def gndB (g : Gnd) : Bool :=
  inB g.cells.length 1 8 && g.cells.all (cellB g.cells.length) && upB g.slo g.shi 100000 && upB g.klo g.khi 1000 && inB g.melt 0 50 && noSelf g.cells 0

def errB (b : Bool) : Int := if b = true then 0 else 1

/-- The error of a ground with days. -/
def faultN (g : Gnd) (days : List Day) : Int :=
  if gndB g = true then (if days.length > 30 then 3 else if days.all dayB = true then 0 else 1) else 1

theorem bcell {W w1 : World} (hb : Below W.heap.size W w1) : (∀ b o, b < W.heap.size → w1.cell? ⟨b, o, none⟩ = W.cell? ⟨b, o, none⟩) ∧ (∀ b o, b < W.heap.size → w1.frozen? ⟨b, o, none⟩ = W.frozen? ⟨b, o, none⟩) :=
  ⟨fun b o h => hb.cell (p := ⟨b, o, none⟩) h, fun b o h => hb.frozen (p := ⟨b, o, none⟩) h⟩

abbrev gndV (A : Option Addr) (cp : Nat) (g : Gnd) : Value := .agg #[.slice A g.cells.length cp, vi g.slo, vi g.shi, vi g.klo, vi g.khi, vi g.melt]

set_option maxRecDepth 100000 in
set_option maxHeartbeats 1000000 in
theorem checkGround_any (g : Gnd) (cp : Nat) (A : Option Addr) (w : World) (hn : g.cells.length ≤ 1000) (hrow : Row cellL 7 w w.heap.size A g.cells) :
    Calls Try.prog 31 #[gndV A cp g] w fun e w' => e = .returned (.int .i64 (errB (gndB g))) ∧ Below w.heap.size w w' := by
  obtain ⟨l, slo, shi, klo, khi, melt⟩ := g
  unfold gndB gndV
  dsimp only at hn hrow ⊢
  have hrow' : ∀ o, Row cellL 7 (w.alloc o) (w.alloc o).heap.size A l := fun o => (hrow.below ((Below.refl _ _).alloc (Nat.le_refl _) o)).more (by simp)
  have HR := Lib.hid hrow'
  clear hrow'
  obtain ⟨n, hnl⟩ : ∃ n, n = l.length := ⟨_, rfl⟩
  have hall : Calls Try.prog 66 #[.slice A n cp, .func (.func 63) #[] #[.pointer (some ⟨w.heap.size, 0, none⟩)]] (w.alloc (.cells #[.slice A n cp, vi slo, vi shi, vi klo, vi khi, vi melt] 38))
      fun e w' => e = .returned (.bool (l.all (cellB n))) ∧ Below (w.alloc (.cells #[.slice A n cp, vi slo, vi shi, vi klo, vi khi, vi melt] 38)).heap.size (w.alloc (.cells #[.slice A n cp, vi slo, vi shi, vi klo, vi khi, vi melt] 38)) w' := by
    subst hnl
    exact allCell_any l cp _ cp A A l.length _ hn hn (HR.out _) (by simp)
  have HA := Lib.hid hall
  clear hall
  rw [← hnl] at hn ⊢
  have HN := Lib.hid hnl
  clear hnl
  cases h1 : inB (n : Int) 1 8
  case' true => cases h2 : l.all (cellB n)
  case' true.true => cases h3 : upB slo shi 100000
  case' true.true.true => cases h4 : upB klo khi 1000
  case' true.true.true.true => cases h5 : inB melt 0 50
  case true.true.true.true.true =>
    go_enter Try.func31, Try.ntmps31
    go_wp2_with (first | (go_at_call 64; refine (within_any _ _ _ _).mono ?_; rintro e w' ⟨rfl, rfl⟩) | (go_at_call 65; refine (up_any _ _ _ _).mono ?_; rintro e w' ⟨rfl, rfl⟩) | (go_at_call 66; refine (HA.out).mono ?_; rintro e w1 ⟨rfl, hb⟩; obtain ⟨hc, hf⟩ := bcell hb; have hsz : w.heap.size < w1.heap.size := by { have := hb.size; simp at this; omega }))
    clear hc hf HA
    have hB0 := ((below_step ((Below.refl w.heap.size w).alloc (Nat.le_refl _) _) hb (by simp)).alloc (by omega) (.cells #[.int .i64 slo, .int .i64 shi] 36)).alloc (by simp; omega) (.cells #[.int .i64 klo, .int .i64 khi] 36)
    have HB0 := Lib.hid hB0
    clear hB0 hb hsz
    go_loopw [2, 4, 5, 40] (fun r _ _ i wr => ∃ k : Nat, k ≤ n ∧ r = .int .i64 0 ∧ i = .int .i64 k ∧ Below w.heap.size w wr ∧ selfFree l k) (fun _ _ _ i _ => n - (intOf i).toNat)
    case atStart => exact ⟨0, Nat.zero_le _, rfl, rfl, HB0.out, selfFree_zero _⟩
    case round =>
      obtain ⟨k, hk, rfl, rfl, hbw, he⟩ := hrel
      have HE := Lib.hid he
      clear he
      by_cases hlt : k < n
      · obtain ⟨c, hc⟩ := get_of_lt (l := l) (k := k) (by have := HN.out; omega)
        obtain ⟨b, off, rfl, hb, h0, h1, h2, h3, h4, h5, h6⟩ := row7 (hrow.below hbw) hc
        have HC := Lib.hid hc
        clear hc
        by_cases hs : c.to = (k : Int)
        · have HS := Lib.hid hs
          have hs' : (c.to == (k : Int)) = true := by simp [hs]
          clear hs
          go_wp2_with fail
          go_ret
          exact ⟨by simp [noSelf_false l k c HC.out HS.out, errB], hbw.alloc hbw.size _⟩
        · have HS := Lib.hid hs
          have hs' : (c.to == (k : Int)) = false := by simp [hs]
          clear hs
          go_wp2_with fail
          go_roundw
          case rel => exact ⟨k + 1, by omega, rfl, by go_num, hbw.alloc hbw.size _, selfFree_succ HE.out HC.out HS.out⟩
          case measure => simp [intOf]; omega
      · go_wp2_with fail
        go_ret
        have hkn : k = l.length := by have := HN.out; omega
        exact ⟨by simp [selfFree_all (hkn ▸ HE.out), errB], hbw⟩
  all_goals
    (go_enter Try.func31, Try.ntmps31
     go_wp2_with (first | (go_at_call 64; refine (within_any _ _ _ _).mono ?_; rintro e w' ⟨rfl, rfl⟩) | (go_at_call 65; refine (up_any _ _ _ _).mono ?_; rintro e w' ⟨rfl, rfl⟩) | (go_at_call 66; refine (HA.out).mono ?_; rintro e w1 ⟨rfl, hb⟩; obtain ⟨hc, hf⟩ := bcell hb; have hsz : w.heap.size < w1.heap.size := by { have := hb.size; simp at this; omega }))
     go_ret
     refine ⟨by simp [errB], ?_⟩
     first
       | exact (Below.refl _ _).alloc (Nat.le_refl _) _
       | exact below_step ((Below.refl _ _).alloc (Nat.le_refl _) _) hb (by simp)
       | exact (below_step ((Below.refl _ _).alloc (Nat.le_refl _) _) hb (by simp)).alloc (by omega) _
       | exact ((below_step ((Below.refl _ _).alloc (Nat.le_refl _) _) hb (by simp)).alloc (by omega) _).alloc (by simp; omega) _)

set_option maxHeartbeats 1000000 in
theorem check_any (g : Gnd) (cp : Nat) (A : Option Addr) (days : List Day) (dp : Nat) (D : Option Addr) (w : World) (hn : g.cells.length ≤ 1000) (hm : days.length ≤ 1000)
    (hrow : Row cellL 7 w w.heap.size A g.cells) (hday : Row dayL 3 w w.heap.size D days) :
    Calls Try.prog 51 #[gndV A cp g, .slice D days.length dp] w fun e w' => e = .returned (.int .i64 (faultN g days)) ∧ Below w.heap.size w w' := by
  have hck : ∀ o, Calls Try.prog 31 #[gndV A cp g] (w.alloc o) fun e w' => e = .returned (.int .i64 (errB (gndB g))) ∧ Below (w.alloc o).heap.size (w.alloc o) w' := fun o =>
    checkGround_any g cp A _ hn ((hrow.below ((Below.refl _ _).alloc (Nat.le_refl _) o)).more (by simp))
  have HK := Lib.hid hck
  clear hck
  have hdy : ∀ W, Below w.heap.size w W → Calls Try.prog 82 #[.slice D days.length dp, .func (.func 83) #[] #[]] W fun e w' => e = .returned (.bool (days.all dayB)) ∧ Below W.heap.size W w' := fun W hW =>
    allDay_any days dp D W hm ((hday.below hW).more hW.size)
  have HD := Lib.hid hdy
  clear hdy
  unfold faultN
  cases h1 : gndB g
  case' true => by_cases h2 : days.length > 30
  case' neg => cases h3 : days.all dayB
  all_goals
    (try rw [h1] at HK)
    (try rw [h3] at HD)
    simp only [errB, if_true, if_false, Bool.false_eq_true] at HK ⊢
    try rw [if_pos h2]
    try rw [if_neg h2]
    go_enter Try.func51, Try.ntmps51
    go_wp2_with (first | (go_at_call 31; refine (HK.out _).mono ?_; rintro e w1 ⟨rfl, hb⟩; have hb1 := below_step ((Below.refl w.heap.size w).alloc (Nat.le_refl _) _) hb (by simp)) | (go_at_call 82; refine (HD.out _ hb1).mono ?_; rintro e w2 ⟨rfl, hb2⟩))
    go_ret
    first | exact ⟨rfl, hb1⟩ | exact ⟨rfl, below_next hb1 hb2⟩
end Go.Proofs.Yteonkhohloabfaa
