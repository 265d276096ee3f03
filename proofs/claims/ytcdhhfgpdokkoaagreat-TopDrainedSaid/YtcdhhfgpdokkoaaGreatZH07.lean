/- What the last text of this chain needs: WtA, WtE, WtB, WtC, WtH, WtD, WtF, WtI, WtJ, WtK, WtM, WtN. -/
import Derived.Test.YtcdhhfgpdokkoaaGreatZH01
namespace Go.Proofs.YtcdhhfgpdokkoaaGreat
section
open Go.RowKit
structure Cell where
 lo : Int
 hi : Int
 cap : Int
 keep : Int
 pass : Int
 tgt : Int
 pump : Int
structure Day where
 lo : Int
 hi : Int
 warm : Int
abbrev cellL (c : Cell) : List Value := [vi c.lo, vi c.hi, vi c.cap, vi c.keep, vi c.pass, vi c.tgt, vi c.pump]
abbrev dayL (d : Day) : List Value := [vi d.lo, vi d.hi, vi d.warm]
abbrev cellV (c : Cell) : Value := .agg #[vi c.lo, vi c.hi, vi c.cap, vi c.keep, vi c.pass, vi c.tgt, vi c.pump]
abbrev dayV (d : Day) : Value := .agg #[vi d.lo, vi d.hi, vi d.warm]
def cellB (n : Nat) (c : Cell) : Bool :=
 inB c.cap 1 100000 && upB c.lo c.hi c.cap && inB c.keep 0 c.cap && inB c.pass 0 1000 && inB c.tgt (-1) ((n : Int) - 1) && inB c.pump 0 100000
def dayB (d : Day) : Bool := upB d.lo d.hi 1000 && inB d.warm (-50) 50

theorem row7 {w : World} {B : Nat} {A : Option Addr} {l : List Cell} (h : Row cellL 7 w B A l) {k : Nat} {c : Cell} (hk : l[k]? = some c) :
  ∃ b off, A = some ⟨b, off, none⟩ /\ b < B /\ w.cell? ⟨b, off + k * 7, none⟩ = some (.int .i64 c.lo) /\ w.cell? ⟨b, off + k * 7 + 1, none⟩ = some (.int .i64 c.hi) /\ w.cell? ⟨b, off + k * 7 + 2, none⟩ = some (.int .i64 c.cap) /\
   w.cell? ⟨b, off + k * 7 + 3, none⟩ = some (.int .i64 c.keep) /\ w.cell? ⟨b, off + k * 7 + 4, none⟩ = some (.int .i64 c.pass) /\ w.cell? ⟨b, off + k * 7 + 5, none⟩ = some (.int .i64 c.tgt) /\ w.cell? ⟨b, off + k * 7 + 6, none⟩ = some (.int .i64 c.pump) := by
 obtain ⟨b, off, e, hb, hc⟩ := h (ne_nil_of_get hk)
 exact ⟨b, off, e, hb, hc k c hk 0 _ rfl, hc k c hk 1 _ rfl, hc k c hk 2 _ rfl, hc k c hk 3 _ rfl, hc k c hk 4 _ rfl, hc k c hk 5 _ rfl, hc k c hk 6 _ rfl⟩
theorem row3W {w : World} {B : Nat} {A : Option Addr} {l : List Day} (h : Row dayL 3 w B A l) {k : Nat} {c : Day} (hk : l[k]? = some c) :
  ∃ b off, A = some ⟨b, off, none⟩ /\ b < B /\ w.cell? ⟨b, off + k * 3, none⟩ = some (.int .i64 c.lo) /\ w.cell? ⟨b, off + k * 3 + 1, none⟩ = some (.int .i64 c.hi) /\ w.cell? ⟨b, off + k * 3 + 2, none⟩ = some (.int .i64 c.warm) := by
 obtain ⟨b, off, e, hb, hc⟩ := h (ne_nil_of_get hk)
 exact ⟨b, off, e, hb, hc k c hk 0 _ rfl, hc k c hk 1 _ rfl, hc k c hk 2 _ rfl⟩
set_option maxHeartbeats 400000 in
theorem within_anyW (n lo hi : Int) (w : World) :
  Calls Tryz.prog 60 #[.int .i64 n, .int .i64 lo, .int .i64 hi] w fun e w' => e = .returned (.bool (inB n lo hi)) /\ w = w' := by
 by_cases h1 : lo <= n <;> by_cases h2 : n <= hi <;>
 (go_enter Tryz.func60, Tryz.ntmps60
  go_wp2
  go_ret
  exact ⟨by simp [inB, h1, h2], rfl⟩)
set_option maxHeartbeats 400000 in
theorem in_anyW (n lo hi : Int) (w : World) :
  Calls Tryz.prog 28 #[.int .i64 n, .int .i64 lo, .int .i64 hi] w fun e w' => e = .returned (.bool (inB n lo hi)) /\ w = w' := by
 by_cases h1 : lo <= n <;> by_cases h2 : n <= hi <;>
 (go_enter Tryz.func28, Tryz.ntmps28
  go_wp2
  go_ret
  exact ⟨by simp [inB, h1, h2], rfl⟩)
set_option maxHeartbeats 400000 in
theorem up_anyW (lo hi most : Int) (w : World) :
  Calls Tryz.prog 65 #[.agg #[.int .i64 lo, .int .i64 hi], .int .i64 most] w fun e w' => e = .returned (.bool (upB lo hi most)) /\ w.alloc (.cells #[.int .i64 lo, .int .i64 hi] 52) = w' := by
 by_cases h1 : 0 <= lo <;> by_cases h2 : lo <= hi <;> by_cases h3 : hi <= most <;>
 (go_enter Tryz.func65, Tryz.ntmps65
  go_wp2
  go_ret
  exact ⟨by simp [upB, h1, h2, h3], rfl⟩)
set_option maxHeartbeats 400000 in
theorem upTo_any (lo hi most : Int) (w : World) :
  Calls Tryz.prog 27 #[.agg #[.int .i64 lo, .int .i64 hi], .int .i64 most] w fun e w' => e = .returned (.bool (upB lo hi most)) /\ w.alloc (.cells #[.int .i64 lo, .int .i64 hi] 27) = w' := by
 by_cases h1 : 0 <= lo <;> by_cases h2 : lo <= hi <;> by_cases h3 : hi <= most <;>
 (go_enter Tryz.func27, Tryz.ntmps27
  go_wp2
  go_ret
  exact ⟨by simp [upB, h1, h2, h3], rfl⟩)
set_option maxHeartbeats 400000 in
theorem has_anyW (lo hi n : Int) (w : World) :
  Calls Tryz.prog 66 #[.agg #[.int .i64 lo, .int .i64 hi], .int .i64 n] w fun e w' => e = .returned (.bool (inB n lo hi)) /\ w.alloc (.cells #[.int .i64 lo, .int .i64 hi] 52) = w' := by
 go_enter Tryz.func66, Tryz.ntmps66
 go_wp2_with (go_at_call 60; refine (within_anyW _ _ _ _).mono ?_; rintro e w' ⟨rfl, rfl⟩)
 go_ret
 exact ⟨rfl, rfl⟩
set_option maxHeartbeats 400000 in
theorem to_anyW (lo hi : Int) (w : World) :
  Calls Tryz.prog 41 #[.agg #[.int .i64 lo, .int .i64 hi]] w fun e w' => e = .returned (.agg #[.int .i64 lo, .int .i64 hi]) /\ Below w.heap.size w w' := by
 go_enter Tryz.func41, Tryz.ntmps41
 go_wp2
 exact bodyPost_ret (v := .agg #[.int .i64 lo, .int .i64 hi]) (by simp [results, Tryz.results41, go_sem]) rfl ⟨rfl, ((Below.refl _ _).alloc (Nat.le_refl _) _).alloc (by simp) _⟩
set_option maxHeartbeats 400000 in
theorem high_anyW (lo hi : Int) (w : World) :
  Calls Tryz.prog 61 #[.agg #[.int .i64 lo, .int .i64 hi]] w fun e w' => e = .returned (.int .i64 hi) /\ Below w.heap.size w w' := by
 go_enter Tryz.func61, Tryz.ntmps61
 go_wp2
 go_ret
 exact ⟨rfl, (Below.refl _ _).alloc (Nat.le_refl _) _⟩
set_option maxHeartbeats 1000000 in
theorem checkCell_any (c : Cell) (gb : Nat) (A : Option Addr) (n cp : Nat) (w : World) (hn : n <= 1000)
  (hg : w.cell? ⟨gb, 0, none⟩ = some (.slice A n cp)) :
  Calls Tryz.prog 83 #[cellV c, .pointer (some ⟨gb, 0, none⟩)] w 
   fun e w' => (e = .returned (.bool (cellB n c))) /\ Below w.heap.size w w' := by
 obtain ⟨lo, hi, cap, keep, pass, tgt, pump⟩ := c
 have hlt := World.block_lt_of_cell? w _ hg
 dsimp only at hlt
 unfold cellB
 dsimp only
 cases h1 : inB cap 1 100000
 case' true => cases h2 : upB lo hi cap
 case' true.true => cases h3 : inB keep 0 cap
 case' true.true.true => cases h4 : inB pass 0 1000
 case' true.true.true.true => cases h5 : inB tgt (-1) ((n : Int) - 1)
 case' true.true.true.true.true => cases h6 : inB pump 0 100000
 all_goals
  (go_enter Tryz.func83, Tryz.ntmps83
   go_wp2_with (first | (go_at_call 60; refine (within_anyW _ _ _ _).mono ?_; rintro e w' ⟨rfl, rfl⟩) | (go_at_call 65; refine (up_anyW _ _ _ _).mono ?_; rintro e w' ⟨rfl, rfl⟩))
   go_ret
   refine ⟨by simp, ?_⟩
   first | exact (Below.refl _ _).alloc (Nat.le_refl _) _ | exact ((Below.refl _ _).alloc (Nat.le_refl _) _).alloc (by simp) _)
set_option maxHeartbeats 1000000 in
theorem checkDay_any (d : Day) (w : World) :
  Calls Tryz.prog 64 #[dayV d] w fun e w' => (e = .returned (.bool (dayB d))) /\ Below w.heap.size w w' := by
 obtain ⟨lo, hi, warm⟩ := d
 unfold dayB
 dsimp only
 cases h1 : upB lo hi 1000
 case' true => cases h2 : inB warm (-50) 50
 all_goals
  (go_enter Tryz.func64, Tryz.ntmps64
   go_wp2_with (first | (go_at_call 60; refine (within_anyW _ _ _ _).mono ?_; rintro e w' ⟨rfl, rfl⟩) | (go_at_call 65; refine (up_anyW _ _ _ _).mono ?_; rintro e w' ⟨rfl, rfl⟩))
   go_ret
   refine ⟨by simp, ?_⟩
   first | exact (Below.refl _ _).alloc (Nat.le_refl _) _ | exact ((Below.refl _ _).alloc (Nat.le_refl _) _).alloc (by simp) _)
end

section
def cAt (l : List Cell) (j : Nat) : Cell := l[j]?.getD ⟨0, 0, 0, 0, 0, 0, 0⟩
theorem cAt_of {l : List Cell} {k : Nat} {c : Cell} (h : l[k]? = some c) : cAt l k = c := by simp [cAt, h]
def takenF (c : Cell) (x : Int) : Int := min x c.pump
def staysF (c : Cell) (x : Int) : Int := x - takenF c x
def overF (c : Cell) (x : Int) : Int := max 0 (staysF c x - c.keep)
def onF (c : Cell) (x : Int) : Int := overF c x * c.pass / 1000
def baseF (c : Cell) (x soaks : Int) : Int := staysF c x - onF c x + soaks
def inflow (l : List Cell) (f : Nat -> Int) (i : Nat) : Nat -> Int
 | 0 => 0
 | k + 1 => inflow l f i k + if (cAt l k).tgt = (i : Int) then onF (cAt l k) (f k) else 0
def nowF (l : List Cell) (f : Nat -> Int) (soaks : Int) (k i : Nat) : Int := (if i < k then baseF (cAt l i) (f i) soaks else 0) + inflow l f i k
def leftA (l : List Cell) (f : Nat -> Int) (down soaks : Int) : Nat -> Int
 | 0 => 0
 | k + 1 => leftA l f down soaks k + (down - soaks + takenF (cAt l k) (f k)) + if (cAt l k).tgt = -1 then onF (cAt l k) (f k) else 0
def leftB (l : List Cell) (f : Nat -> Int) (soaks : Int) : Nat -> Int
 | 0 => 0
 | k + 1 => leftB l f soaks k + max 0 (nowF l f soaks l.length k - (cAt l k).cap)
def newLv (l : List Cell) (f : Nat -> Int) (soaks : Int) (i : Nat) : Int := if i < l.length then min (nowF l f soaks l.length i) (cAt l i).cap else f i
def newLeft (l : List Cell) (f : Nat -> Int) (down soaks : Int) : Int := leftA l f down soaks l.length + leftB l f soaks l.length
structure CellOk (n : Nat) (c : Cell) : Prop where
 cap1 : 1 <= c.cap
 cap2 : c.cap <= 100000
 keep1 : 0 <= c.keep
 pass1 : 0 <= c.pass
 pass2 : c.pass <= 1000
 to1 : -1 <= c.tgt
 to2 : c.tgt < n
 pump1 : 0 <= c.pump
 pump2 : c.pump <= 100000
 lo1 : 0 <= c.lo
 lohi : c.lo <= c.hi
 hi2 : c.hi <= c.cap
 keep2 : c.keep <= c.cap
theorem cellOk_of {n : Nat} {c : Cell} (h : cellB n c = true) : CellOk n c := by
 simp only [cellB, inB, upB, Bool.and_eq_true, decide_eq_true_eq] at h
 constructor <;> omega
section
variable {n : Nat} {c : Cell} {x : Int}
theorem taken_bd (h : CellOk n c) (h0 : 0 <= x) : 0 <= takenF c x /\ takenF c x <= x /\ takenF c x <= 100000 := by
 have := h.pump1; have := h.pump2
 unfold takenF; omega
theorem stays_bd (h : CellOk n c) (h0 : 0 <= x) : 0 <= staysF c x /\ staysF c x <= x := by
 have := taken_bd h h0
 unfold staysF; omega
theorem over_bd (h : CellOk n c) (h0 : 0 <= x) : 0 <= overF c x /\ overF c x <= staysF c x := by
 have := stays_bd h h0; have := h.keep1
 unfold overF; omega
theorem prod_bd (h : CellOk n c) (h0 : 0 <= x) (h1 : x <= 100000) : 0 <= overF c x * c.pass /\ overF c x * c.pass <= 100000000 /\ overF c x * c.pass <= overF c x * 1000 := by
 have ho := over_bd h h0; have hs := stays_bd h h0; have p1 := h.pass1; have p2 := h.pass2
 have a := Int.mul_nonneg ho.1 p1
 have b : overF c x * c.pass <= overF c x * 1000 := Int.mul_le_mul_of_nonneg_left p2 ho.1
 exact ⟨a, by omega, b⟩
theorem on_bd (h : CellOk n c) (h0 : 0 <= x) (h1 : x <= 100000) : 0 <= onF c x /\ onF c x <= overF c x /\ onF c x <= 100000 := by
 have ho := over_bd h h0; have hs := stays_bd h h0; have hp := prod_bd h h0 h1
 unfold onF; omega
theorem base_bd (h : CellOk n c) (h0 : 0 <= x) (h1 : x <= 100000) {soaks : Int} (hs0 : 0 <= soaks) (hs1 : soaks <= 10000) : 0 <= baseF c x soaks /\ baseF c x soaks <= 110000 := by
 have ho := over_bd h h0; have hs := stays_bd h h0; have hp := on_bd h h0 h1
 unfold baseF; omega
end
def LvOk (l : List Cell) (f : Nat -> Int) : Prop := ∀ i, i < l.length -> 0 <= f i /\ f i <= 100000
def CsOk (l : List Cell) : Prop := ∀ i, i < l.length -> CellOk l.length (cAt l i)
section
variable {l : List Cell} {f : Nat -> Int} {soaks down : Int}
theorem inflow_bd (hc : CsOk l) (hf : LvOk l f) (i : Nat) : ∀ k, k <= l.length -> 0 <= inflow l f i k /\ inflow l f i k <= k * 100000
 | 0, _ => by simp [inflow]
 | k + 1, hk => by
  have ih := inflow_bd hc hf i k (by omega)
  have hb := on_bd (hc k (by omega)) (hf k (by omega)).1 (hf k (by omega)).2
  simp only [inflow]
  split <;> omega
theorem now_bd (hc : CsOk l) (hf : LvOk l f) (h0 : 0 <= soaks) (h1 : soaks <= 10000) (k i : Nat) (hk : k <= l.length) : 0 <= nowF l f soaks k i /\ nowF l f soaks k i <= 110000 + k * 100000 := by
 have ha := inflow_bd hc hf i k hk
 unfold nowF
 split
 ·have := base_bd (hc i (by omega)) (hf i (by omega)).1 (hf i (by omega)).2 h0 h1
  omega
 ·omega
theorem leftA_bd (hc : CsOk l) (hf : LvOk l f) (h0 : 0 <= soaks) (h1 : soaks <= down) (h2 : down <= 10000) : ∀ k, k <= l.length -> 0 <= leftA l f down soaks k /\ leftA l f down soaks k <= k * 210000
 | 0, _ => by simp [leftA]
 | k + 1, hk => by
  have ih := leftA_bd hc hf h0 h1 h2 k (by omega)
  have hb := on_bd (hc k (by omega)) (hf k (by omega)).1 (hf k (by omega)).2
  have ht := taken_bd (hc k (by omega)) (hf k (by omega)).1
  simp only [leftA]
  split <;> omega
theorem leftB_bd (hc : CsOk l) (hf : LvOk l f) (h0 : 0 <= soaks) (h1 : soaks <= 10000) (h8 : l.length <= 8) : ∀ k, k <= l.length -> 0 <= leftB l f soaks k /\ leftB l f soaks k <= k * 1000000
 | 0, _ => by simp [leftB]
 | k + 1, hk => by
  have ih := leftB_bd hc hf h0 h1 h8 k (by omega)
  have hb := now_bd hc hf h0 h1 l.length k (Nat.le_refl _)
  have := (hc k (by omega)).cap1
  simp only [leftB]
  omega
theorem newLv_ok (hc : CsOk l) (hf : LvOk l f) (h0 : 0 <= soaks) (h1 : soaks <= 10000) : LvOk l (newLv l f soaks) := fun i hi => by
 have hb := now_bd hc hf h0 h1 l.length i (Nat.le_refl _)
 have h2 := hc i hi
 have := h2.cap1; have := h2.cap2
 unfold newLv
 rw [if_pos hi]
 omega
end
theorem nowF_step (l : List Cell) (f : Nat -> Int) (soaks : Int) (k i : Nat) (c : Cell) (hc : l[k]? = some c) :
  nowF l f soaks (k + 1) i = nowF l f soaks k i + (if i = k then baseF c (f k) soaks else 0) + (if c.tgt = (i : Int) then onF c (f k) else 0) := by
 have e := cAt_of hc
 unfold nowF
 simp only [inflow, e]
 by_cases h1 : i = k
 ·subst h1
  rw [e]
  simp
  omega
 ·by_cases h2 : i < k
  ·rw [if_pos (by omega), if_pos h2, if_neg h1]; omega
  ·rw [if_neg (by omega), if_neg h2, if_neg h1]; omega
theorem leftB_step (l : List Cell) (f : Nat -> Int) (soaks : Int) (k : Nat) (c : Cell) (hc : l[k]? = some c) : leftB l f soaks (k + 1) = leftB l f soaks k + max 0 (nowF l f soaks l.length k - c.cap) := by
 simp only [leftB, cAt_of hc]
theorem leftA_step (l : List Cell) (f : Nat -> Int) (down soaks : Int) (k : Nat) (c : Cell) (hc : l[k]? = some c) : leftA l f down soaks (k + 1) = leftA l f down soaks k + (down - soaks + takenF c (f k)) + if c.tgt = -1 then onF c (f k) else 0 := by
 simp only [leftA, cAt_of hc]
end

section
open Go.RowKit
set_option maxHeartbeats 400000 in
theorem notCell_any (c : Cell) (rb gb : Nat) (A : Option Addr) (n cp : Nat) (w : World) (hn : n <= 1000)
  (hr : w.cell? ⟨rb, 0, none⟩ = some (.func (.func 83) #[] #[.pointer (some ⟨gb, 0, none⟩)])) (hg : w.cell? ⟨gb, 0, none⟩ = some (.slice A n cp)) :
  Calls Tryz.prog 96 #[cellV c, .pointer (some ⟨rb, 0, none⟩)] w fun e w' => (e = .returned (.bool (!cellB n c))) /\ Below w.heap.size w w' := by
 have hlt := World.block_lt_of_cell? w _ hr
 have hlt2 := World.block_lt_of_cell? w _ hg
 dsimp only at hlt hlt2
 have hg' := fun o => cell_alloc hg o
 go_enter Tryz.func96, Tryz.ntmps96
 go_wp2_with (go_at_call 83; refine (checkCell_any c gb A n cp _ hn (hg' _)).mono ?_; rintro e w' ⟨rfl, hb⟩)
 go_ret
 exact ⟨rfl, below_step ((Below.refl _ _).alloc (Nat.le_refl _) _) hb (by simp)⟩
set_option maxHeartbeats 400000 in
theorem idxCell_any (l : List Cell) (p : Cell -> Bool) (cp rb : Nat) (A : Option Addr) (w : World) (hn : l.length <= 1000) (hrow : Row cellL 7 w w.heap.size A l)
  (hf : ∀ c W, Below w.heap.size w W -> Calls Tryz.prog 96 #[cellV c, .pointer (some ⟨rb, 0, none⟩)] W fun e w' => e = .returned (.bool (p c)) /\ Below W.heap.size W w') :
  Calls Tryz.prog 103 #[.slice A l.length cp, .func (.func 96) #[] #[.pointer (some ⟨rb, 0, none⟩)]] w fun e w' => e = .returned (.int .i64 (idx p l)) /\ Below w.heap.size w w' := by
 have HF := Lib.hid hf
 clear hf
 obtain ⟨n, hnl⟩ : ∃ n, n = l.length := ⟨_, rfl⟩
 rw [<- hnl] at hn ⊢
 have HN := Lib.hid hnl
 clear hnl
 go_enter Tryz.func103, Tryz.ntmps103
 go_wp2
 go_loopw [4, 5, 8] (fun _ _ i wr => ∃ k : Nat, k <= n /\ i = .int .i64 k /\ Below w.heap.size w wr /\ early p l k) (fun _ _ i _ => n - (intOf i).toNat)
 case atStart => exact ⟨0, Nat.zero_le _, rfl, Below.refl _ _, early_zero _ _⟩
 case round =>
  obtain ⟨k, hk, rfl, hbw, he⟩ := hrel
  have HE := Lib.hid he
  clear he
  by_cases hlt : k < n
  ·obtain ⟨c, hc⟩ := get_of_lt (l := l) (k := k) (by have := HN.out; omega)
   obtain ⟨b, off, rfl, hb, h0, h1, h2, h3, h4, h5, h6⟩ := row7 (hrow.below hbw) hc
   have HC := Lib.hid hc
   clear hc
   cases hp : p c
   ·go_wp2_with (go_at_call 96; refine (HF.out c _ hbw).mono ?_; rintro e w' ⟨rfl, hb2⟩)
    go_roundw
    case rel => exact ⟨k + 1, by omega, by go_num, below_next hbw hb2, early_succ HE.out HC.out hp⟩
    case measure => simp [intOf]; omega
   ·go_wp2_with (go_at_call 96; refine (HF.out c _ hbw).mono ?_; rintro e w' ⟨rfl, hb2⟩)
    go_ret
    exact ⟨ret_int (idx_here p l k c HC.out hp HE.out).symm, below_next hbw hb2⟩
  ·go_wp2_with fail
   go_ret
   have hkn : k = l.length := by have := HN.out; omega
   exact ⟨ret_int (idx_none p l (hkn ▸ HE.out)).symm, hbw⟩
set_option maxHeartbeats 400000 in
theorem containsCell_any (l : List Cell) (p : Cell -> Bool) (cp rb : Nat) (A : Option Addr) (w : World) (hn : l.length <= 1000) (hrow : Row cellL 7 w w.heap.size A l)
  (hf : ∀ c W, Below w.heap.size w W -> Calls Tryz.prog 96 #[cellV c, .pointer (some ⟨rb, 0, none⟩)] W fun e w' => e = .returned (.bool (p c)) /\ Below W.heap.size W w') :
  Calls Tryz.prog 95 #[.slice A l.length cp, .func (.func 96) #[] #[.pointer (some ⟨rb, 0, none⟩)]] w fun e w' => e = .returned (.bool (decide (0 <= idx p l))) /\ Below w.heap.size w w' := by
 have HF := Lib.hid hf
 clear hf
 go_enter Tryz.func95, Tryz.ntmps95
 go_wp2_with (go_at_call 103; refine (idxCell_any l p cp rb A _ hn hrow HF.out).mono ?_; rintro e w' ⟨rfl, hb2⟩)
 go_ret
 exact ⟨rfl, hb2⟩
set_option maxHeartbeats 400000 in
theorem allCell_any (l : List Cell) (cp gb cp' : Nat) (A A' : Option Addr) (n : Nat) (w : World) (hn : l.length <= 1000) (hn' : n <= 1000) (hrow : Row cellL 7 w w.heap.size A l) (hg : w.cell? ⟨gb, 0, none⟩ = some (.slice A' n cp')) :
  Calls Tryz.prog 84 #[.slice A l.length cp, .func (.func 83) #[] #[.pointer (some ⟨gb, 0, none⟩)]] w fun e w' => e = .returned (.bool (l.all (cellB n))) /\ Below w.heap.size w w' := by
 have hlt2 := World.block_lt_of_cell? w _ hg
 dsimp only at hlt2
 go_enter Tryz.func84, Tryz.ntmps84
 go_wp2_with (go_at_call 95; refine (containsCell_any l (fun c => !cellB n c) cp _ A _ hn ?hrow ?hf).mono ?_; rotate_left 2; rintro e w' ⟨rfl, hb2⟩)
 case hrow => exact (hrow.below ((Below.refl _ _).alloc (Nat.le_refl _) _)).more (by simp)
 case hf =>
  intro c W hbW
  refine notCell_any c _ gb A' n cp' W hn' ?_ ?_
  ·rw [hbW.cell (p := ⟨w.heap.size, 0, none⟩) (by simp)]; simp
  ·rw [hbW.cell (p := ⟨gb, 0, none⟩) (by simp; omega)]
   rw [World.cell?_alloc_lt _ _ _ (by simpa using hlt2)]; exact hg
 go_ret
 exact ⟨ret_bool (idx_all _ _), below_step ((Below.refl _ _).alloc (Nat.le_refl _) _) hb2 (by simp)⟩
set_option maxHeartbeats 400000 in
theorem notDay_any (c : Day) (rb : Nat) (w : World) (hr : w.cell? ⟨rb, 0, none⟩ = some (.func (.func 64) #[] #[])) :
  Calls Tryz.prog 86 #[dayV c, .pointer (some ⟨rb, 0, none⟩)] w fun e w' => (e = .returned (.bool (!dayB c))) /\ Below w.heap.size w w' := by
 have hlt := World.block_lt_of_cell? w _ hr
 dsimp only at hlt
 go_enter Tryz.func86, Tryz.ntmps86
 go_wp2_with (go_at_call 64; refine (checkDay_any c _).mono ?_; rintro e w' ⟨rfl, hb⟩)
 go_ret
 exact ⟨rfl, below_step ((Below.refl _ _).alloc (Nat.le_refl _) _) hb (by simp)⟩
set_option maxHeartbeats 400000 in
theorem idxDay_any (l : List Day) (p : Day -> Bool) (cp rb : Nat) (A : Option Addr) (w : World) (hn : l.length <= 1000) (hrow : Row dayL 3 w w.heap.size A l)
  (hf : ∀ c W, Below w.heap.size w W -> Calls Tryz.prog 86 #[dayV c, .pointer (some ⟨rb, 0, none⟩)] W fun e w' => e = .returned (.bool (p c)) /\ Below W.heap.size W w') :
  Calls Tryz.prog 97 #[.slice A l.length cp, .func (.func 86) #[] #[.pointer (some ⟨rb, 0, none⟩)]] w fun e w' => e = .returned (.int .i64 (idx p l)) /\ Below w.heap.size w w' := by
 have HF := Lib.hid hf
 clear hf
 obtain ⟨n, hnl⟩ : ∃ n, n = l.length := ⟨_, rfl⟩
 rw [<- hnl] at hn ⊢
 have HN := Lib.hid hnl
 clear hnl
 go_enter Tryz.func97, Tryz.ntmps97
 go_wp2
 go_loopw [4, 5, 8] (fun _ _ i wr => ∃ k : Nat, k <= n /\ i = .int .i64 k /\ Below w.heap.size w wr /\ early p l k) (fun _ _ i _ => n - (intOf i).toNat)
 case atStart => exact ⟨0, Nat.zero_le _, rfl, Below.refl _ _, early_zero _ _⟩
 case round =>
  obtain ⟨k, hk, rfl, hbw, he⟩ := hrel
  have HE := Lib.hid he
  clear he
  by_cases hlt : k < n
  ·obtain ⟨c, hc⟩ := get_of_lt (l := l) (k := k) (by have := HN.out; omega)
   obtain ⟨b, off, rfl, hb, h0, h1, h2⟩ := row3W (hrow.below hbw) hc
   have HC := Lib.hid hc
   clear hc
   cases hp : p c
   ·go_wp2_with (go_at_call 86; refine (HF.out c _ hbw).mono ?_; rintro e w' ⟨rfl, hb2⟩)
    go_roundw
    case rel => exact ⟨k + 1, by omega, by go_num, below_next hbw hb2, early_succ HE.out HC.out hp⟩
    case measure => simp [intOf]; omega
   ·go_wp2_with (go_at_call 86; refine (HF.out c _ hbw).mono ?_; rintro e w' ⟨rfl, hb2⟩)
    go_ret
    exact ⟨ret_int (idx_here p l k c HC.out hp HE.out).symm, below_next hbw hb2⟩
  ·go_wp2_with fail
   go_ret
   have hkn : k = l.length := by have := HN.out; omega
   exact ⟨ret_int (idx_none p l (hkn ▸ HE.out)).symm, hbw⟩
set_option maxHeartbeats 400000 in
theorem containsDay_any (l : List Day) (p : Day -> Bool) (cp rb : Nat) (A : Option Addr) (w : World) (hn : l.length <= 1000) (hrow : Row dayL 3 w w.heap.size A l)
  (hf : ∀ c W, Below w.heap.size w W -> Calls Tryz.prog 86 #[dayV c, .pointer (some ⟨rb, 0, none⟩)] W fun e w' => e = .returned (.bool (p c)) /\ Below W.heap.size W w') :
  Calls Tryz.prog 85 #[.slice A l.length cp, .func (.func 86) #[] #[.pointer (some ⟨rb, 0, none⟩)]] w fun e w' => e = .returned (.bool (decide (0 <= idx p l))) /\ Below w.heap.size w w' := by
 have HF := Lib.hid hf
 clear hf
 go_enter Tryz.func85, Tryz.ntmps85
 go_wp2_with (go_at_call 97; refine (idxDay_any l p cp rb A _ hn hrow HF.out).mono ?_; rintro e w' ⟨rfl, hb2⟩)
 go_ret
 exact ⟨rfl, hb2⟩
set_option maxHeartbeats 400000 in
theorem allDay_any (l : List Day) (cp : Nat) (A : Option Addr) (w : World) (hn : l.length <= 1000) (hrow : Row dayL 3 w w.heap.size A l) :
  Calls Tryz.prog 63 #[.slice A l.length cp, .func (.func 64) #[] #[]] w fun e w' => e = .returned (.bool (l.all dayB)) /\ Below w.heap.size w w' := by
 go_enter Tryz.func63, Tryz.ntmps63
 go_wp2_with (go_at_call 85; refine (containsDay_any l (fun c => !dayB c) cp _ A _ hn ?hrow ?hf).mono ?_; rotate_left 2; rintro e w' ⟨rfl, hb2⟩)
 case hrow => exact (hrow.below ((Below.refl _ _).alloc (Nat.le_refl _) _)).more (by simp)
 case hf =>
  intro c W hbW
  refine notDay_any c _ W ?_
  rw [hbW.cell (p := ⟨w.heap.size, 0, none⟩) (by simp)]; simp
 go_ret
 exact ⟨ret_bool (idx_all _ _), below_step ((Below.refl _ _).alloc (Nat.le_refl _) _) hb2 (by simp)⟩
end

section
open Go.RowKit
structure Gnd where
 cells : List Cell
 slo : Int
 shi : Int
 klo : Int
 khi : Int
 melt : Int
def noSelf : List Cell -> Nat -> Bool
 | [], _ => true
 | c :: l, i => !(c.tgt == (i : Int)) && noSelf l (i + 1)
theorem noSelf_true (l : List Cell) : ∀ i : Nat, (∀ (j : Nat) (c : Cell), l[j]? = some c -> c.tgt ≠ ((i + j : Nat) : Int)) -> noSelf l i = true := by
 induction l with
 | nil => intros; rfl
 | cons c l ih =>
  intro i h
  have h0 := h 0 c rfl
  simp only [noSelf, Bool.and_eq_true, Bool.not_eq_true', beq_eq_false_iff_ne]
  refine ⟨by simpa using h0, ih (i + 1) fun j x hx => ?_⟩
  have := h (j + 1) x (by simpa using hx)
  rw [show i + 1 + j = i + (j + 1) by omega]; exact this
theorem noSelf_spec (l : List Cell) : ∀ i : Nat, noSelf l i = true -> ∀ (j : Nat) (c : Cell), l[j]? = some c -> c.tgt ≠ ((i + j : Nat) : Int) := by
 induction l with
 | nil => intro i _ j c h; simp at h
 | cons c l ih =>
  intro i h j x hx
  simp only [noSelf, Bool.and_eq_true, Bool.not_eq_true', beq_eq_false_iff_ne] at h
  cases j with
  | zero => simp at hx; subst hx; simpa using h.1
  | succ j =>
   have := ih (i + 1) h.2 j x (by simpa using hx)
   rw [show i + (j + 1) = i + 1 + j by omega]; exact this
theorem noSelf_false (l : List Cell) (k : Nat) (c : Cell) (hk : l[k]? = some c) (h : c.tgt = (k : Int)) : noSelf l 0 = false := by
 cases hh : noSelf l 0 with
 | false => rfl
 | true => exact absurd (by simpa using h) (noSelf_spec l 0 hh k c hk)
def selfFree (l : List Cell) (k : Nat) : Prop := ∀ (j : Nat) (c : Cell), j < k -> l[j]? = some c -> c.tgt ≠ (j : Int)
theorem selfFree_zero (l : List Cell) : selfFree l 0 := fun _ _ h => by omega
theorem selfFree_succ {l : List Cell} {k : Nat} {c : Cell} (h : selfFree l k) (hk : l[k]? = some c) (hc : c.tgt ≠ (k : Int)) : selfFree l (k + 1) := fun j x hj hx => by
 rcases Nat.lt_or_ge j k with h1 | h1
 ·exact h j x h1 hx
 ·obtain rfl : j = k := by omega
  rw [hk] at hx; cases hx; exact hc
theorem selfFree_all {l : List Cell} (h : selfFree l l.length) : noSelf l 0 = true :=
 noSelf_true l 0 fun j c hc => by simpa using h j c (List.getElem?_eq_some_iff.1 hc).1 hc
def gndB (g : Gnd) : Bool :=
 inB g.cells.length 1 8 && g.cells.all (cellB g.cells.length) && upB g.slo g.shi 100000 && upB g.klo g.khi 1000 && inB g.melt 0 50 && noSelf g.cells 0
def faultN (g : Gnd) (days : List Day) : Int :=
 if gndB g = true then (if days.length > 30 then 3 else if days.all dayB = true then 0 else 1) else 1
abbrev gndV (A : Option Addr) (cp : Nat) (g : Gnd) : Value := .agg #[.slice A g.cells.length cp, vi g.slo, vi g.shi, vi g.klo, vi g.khi, vi g.melt]
set_option maxRecDepth 100000 in
set_option maxHeartbeats 1000000 in
theorem checkGround_any (g : Gnd) (cp : Nat) (A : Option Addr) (w : World) (hn : g.cells.length <= 1000) (hrow : Row cellL 7 w w.heap.size A g.cells) :
  Calls Tryz.prog 62 #[gndV A cp g] w fun e w' => e = .returned (.int .i64 (errB (gndB g))) /\ Below w.heap.size w w' := by
 obtain ⟨l, slo, shi, klo, khi, melt⟩ := g
 unfold gndB gndV
 dsimp only at hn hrow ⊢
 have hrow' : ∀ o, Row cellL 7 (w.alloc o) (w.alloc o).heap.size A l := fun o => (hrow.below ((Below.refl _ _).alloc (Nat.le_refl _) o)).more (by simp)
 have HR := Lib.hid hrow'
 clear hrow'
 obtain ⟨n, hnl⟩ : ∃ n, n = l.length := ⟨_, rfl⟩
 have hall : Calls Tryz.prog 84 #[.slice A n cp, .func (.func 83) #[] #[.pointer (some ⟨w.heap.size, 0, none⟩)]] (w.alloc (.cells #[.slice A n cp, vi slo, vi shi, vi klo, vi khi, vi melt] 54))
   fun e w' => e = .returned (.bool (l.all (cellB n))) /\ Below (w.alloc (.cells #[.slice A n cp, vi slo, vi shi, vi klo, vi khi, vi melt] 54)).heap.size (w.alloc (.cells #[.slice A n cp, vi slo, vi shi, vi klo, vi khi, vi melt] 54)) w' := by
  subst hnl
  exact allCell_any l cp _ cp A A l.length _ hn hn (HR.out _) (by simp)
 have HA := Lib.hid hall
 clear hall
 rw [<- hnl] at hn ⊢
 have HN := Lib.hid hnl
 clear hnl
 cases h1 : inB (n : Int) 1 8
 case' true => cases h2 : l.all (cellB n)
 case' true.true => cases h3 : upB slo shi 100000
 case' true.true.true => cases h4 : upB klo khi 1000
 case' true.true.true.true => cases h5 : inB melt 0 50
 case true.true.true.true.true =>
  go_enter Tryz.func62, Tryz.ntmps62
  go_wp2_with (first | (go_at_call 60; refine (within_anyW _ _ _ _).mono ?_; rintro e w' ⟨rfl, rfl⟩) | (go_at_call 65; refine (up_anyW _ _ _ _).mono ?_; rintro e w' ⟨rfl, rfl⟩) | (go_at_call 84; refine (HA.out).mono ?_; rintro e w1 ⟨rfl, hb⟩; obtain ⟨hc, hf⟩ := bcell hb; have hsz : w.heap.size < w1.heap.size := by { have := hb.size; simp at this; omega }))
  clear hc hf HA
  have hB0 := ((below_step ((Below.refl w.heap.size w).alloc (Nat.le_refl _) _) hb (by simp)).alloc (by omega) (.cells #[.int .i64 slo, .int .i64 shi] 52)).alloc (by simp; omega) (.cells #[.int .i64 klo, .int .i64 khi] 52)
  have HB0 := Lib.hid hB0
  clear hB0 hb hsz
  go_loopw [2, 4, 5, 40] (fun r _ _ i wr => ∃ k : Nat, k <= n /\ r = .int .i64 0 /\ i = .int .i64 k /\ Below w.heap.size w wr /\ selfFree l k) (fun _ _ _ i _ => n - (intOf i).toNat)
  case atStart => exact ⟨0, Nat.zero_le _, rfl, rfl, HB0.out, selfFree_zero _⟩
  case round =>
   obtain ⟨k, hk, rfl, rfl, hbw, he⟩ := hrel
   have HE := Lib.hid he
   clear he
   by_cases hlt : k < n
   ·obtain ⟨c, hc⟩ := get_of_lt (l := l) (k := k) (by have := HN.out; omega)
    obtain ⟨b, off, rfl, hb, h0, h1, h2, h3, h4, h5, h6⟩ := row7 (hrow.below hbw) hc
    have HC := Lib.hid hc
    clear hc
    by_cases hs : c.tgt = (k : Int)
    ·have HS := Lib.hid hs
     have hs' : (c.tgt == (k : Int)) = true := by simp [hs]
     clear hs
     go_wp2_with fail
     go_ret
     exact ⟨by simp [noSelf_false l k c HC.out HS.out, errB], hbw.alloc hbw.size _⟩
    ·have HS := Lib.hid hs
     have hs' : (c.tgt == (k : Int)) = false := by simp [hs]
     clear hs
     go_wp2_with fail
     go_roundw
     case rel => exact ⟨k + 1, by omega, rfl, by go_num, hbw.alloc hbw.size _, selfFree_succ HE.out HC.out HS.out⟩
     case measure => simp [intOf]; omega
   ·go_wp2_with fail
    go_ret
    have hkn : k = l.length := by have := HN.out; omega
    exact ⟨by simp [selfFree_all (hkn ▸ HE.out), errB], hbw⟩
 all_goals
  (go_enter Tryz.func62, Tryz.ntmps62
   go_wp2_with (first | (go_at_call 60; refine (within_anyW _ _ _ _).mono ?_; rintro e w' ⟨rfl, rfl⟩) | (go_at_call 65; refine (up_anyW _ _ _ _).mono ?_; rintro e w' ⟨rfl, rfl⟩) | (go_at_call 84; refine (HA.out).mono ?_; rintro e w1 ⟨rfl, hb⟩; obtain ⟨hc, hf⟩ := bcell hb; have hsz : w.heap.size < w1.heap.size := by { have := hb.size; simp at this; omega }))
   go_ret
   refine ⟨by simp [errB], ?_⟩
   first
    | exact (Below.refl _ _).alloc (Nat.le_refl _) _
    | exact below_step ((Below.refl _ _).alloc (Nat.le_refl _) _) hb (by simp)
    | exact (below_step ((Below.refl _ _).alloc (Nat.le_refl _) _) hb (by simp)).alloc (by omega) _
    | exact ((below_step ((Below.refl _ _).alloc (Nat.le_refl _) _) hb (by simp)).alloc (by omega) _).alloc (by simp; omega) _)
set_option maxHeartbeats 1000000 in
theorem check_anyW (g : Gnd) (cp : Nat) (A : Option Addr) (days : List Day) (dp : Nat) (D : Option Addr) (w : World) (hn : g.cells.length <= 1000) (hm : days.length <= 1000)
  (hrow : Row cellL 7 w w.heap.size A g.cells) (hday : Row dayL 3 w w.heap.size D days) :
  Calls Tryz.prog 42 #[gndV A cp g, .slice D days.length dp] w fun e w' => e = .returned (.int .i64 (faultN g days)) /\ Below w.heap.size w w' := by
 have hck : ∀ o, Calls Tryz.prog 62 #[gndV A cp g] (w.alloc o) fun e w' => e = .returned (.int .i64 (errB (gndB g))) /\ Below (w.alloc o).heap.size (w.alloc o) w' := fun o =>
  checkGround_any g cp A _ hn ((hrow.below ((Below.refl _ _).alloc (Nat.le_refl _) o)).more (by simp))
 have HK := Lib.hid hck
 clear hck
 have hdy : ∀ W, Below w.heap.size w W -> Calls Tryz.prog 63 #[.slice D days.length dp, .func (.func 64) #[] #[]] W fun e w' => e = .returned (.bool (days.all dayB)) /\ Below W.heap.size W w' := fun W hW =>
  allDay_any days dp D W hm ((hday.below hW).more hW.size)
 have HD := Lib.hid hdy
 clear hdy
 unfold faultN
 cases h1 : gndB g
 case' true => by_cases h2 : days.length > 30
 case' neg => cases h3 : days.all dayB
 all_goals
  (try rw [h1] at HK)
  (try rw [h3] at HD)
  simp only [errB, if_true, if_false, Bool.false_eq_true] at HK ⊢
  try rw [if_pos h2]
  try rw [if_neg h2]
  go_enter Tryz.func42, Tryz.ntmps42
  go_wp2_with (first | (go_at_call 62; refine (HK.out _).mono ?_; rintro e w1 ⟨rfl, hb⟩; have hb1 := below_step ((Below.refl w.heap.size w).alloc (Nat.le_refl _) _) hb (by simp)) | (go_at_call 63; refine (HD.out _ hb1).mono ?_; rintro e w2 ⟨rfl, hb2⟩))
  go_ret
  first | exact ⟨rfl, hb1⟩ | exact ⟨rfl, below_next hb1 hb2⟩
end

section
def dAtW (l : List Day) (k : Nat) : Day := l[k]?.getD ⟨0, 0, 0⟩
theorem dAt_of {l : List Day} {k : Nat} {d : Day} (h : l[k]? = some d) : dAtW l k = d := by simp [dAtW, h]
structure St where
 f : Nat -> Int
 snow : Int
 left : Int
def meltOf (melt : Int) (d : Day) (snow : Int) : Int := min snow (melt * d.warm)
def downOf (melt : Int) (d : Day) (r snow : Int) : Int := if d.warm <= 0 then 0 else r + meltOf melt d snow
def snowOf (melt : Int) (d : Day) (r snow : Int) : Int := if d.warm <= 0 then snow + r else snow - meltOf melt d snow
def dayStep (l : List Cell) (melt soak : Int) (d : Day) (r : Int) (x : St) : St :=
 ⟨newLv l x.f (soaksOf soak (downOf melt d r x.snow)), snowOf melt d r x.snow, newLeft l x.f (downOf melt d r x.snow) (soaksOf soak (downOf melt d r x.snow))⟩
def stAt (l : List Cell) (melt soak : Int) (days : List Day) (rain : List Int) (x : St) : Nat -> St
 | 0 => x
 | k + 1 => dayStep l melt soak (dAtW days k) (iAt rain k) (stAt l melt soak days rain x k)
structure DayOk (d : Day) : Prop where
 lo0 : 0 <= d.lo
 lohi : d.lo <= d.hi
 hi1 : d.hi <= 1000
 w0 : -50 <= d.warm
 w1 : d.warm <= 50
theorem dayOk_of {d : Day} (h : dayB d = true) : DayOk d := by
 simp only [dayB, upB, inB, Bool.and_eq_true, decide_eq_true_eq] at h
 constructor <;> omega
def DsOk (days : List Day) : Prop := ∀ i, i < days.length -> DayOk (dAtW days i)
def RsOk (days : List Day) (rain : List Int) : Prop := ∀ i, i < days.length -> 0 <= iAt rain i /\ iAt rain i <= 1000
structure StOk (l : List Cell) (k : Nat) (x : St) : Prop where
 lv : LvOk l x.f
 snow0 : 0 <= x.snow
 snow1 : x.snow <= 100000 + k * 1000
 left0 : 0 <= x.left
 left1 : x.left <= 100000000
theorem melt_bd {melt : Int} {d : Day} (hd : DayOk d) (m0 : 0 <= melt) (m1 : melt <= 50) (hw : 0 < d.warm) : 0 <= melt * d.warm /\ melt * d.warm <= 2500 := by
 have := hd.w1
 have h1 : 0 <= melt * d.warm := Int.mul_nonneg m0 (by omega)
 have h2 : melt * d.warm <= 50 * d.warm := Int.mul_le_mul_of_nonneg_right m1 (by omega)
 omega
theorem down_bd {melt : Int} {d : Day} {r snow : Int} (hd : DayOk d) (m0 : 0 <= melt) (m1 : melt <= 50) (r0 : 0 <= r) (r1 : r <= 1000) (s0 : 0 <= snow) : 0 <= downOf melt d r snow /\ downOf melt d r snow <= 3500 := by
 unfold downOf meltOf
 split
 ·omega
 ·have := melt_bd hd m0 m1 (by omega)
  omega
theorem snow_bd {melt : Int} {d : Day} {r snow : Int} (hd : DayOk d) (m0 : 0 <= melt) (m1 : melt <= 50) (r0 : 0 <= r) (r1 : r <= 1000) (s0 : 0 <= snow) : 0 <= snowOf melt d r snow /\ snowOf melt d r snow <= snow + 1000 := by
 unfold snowOf meltOf
 split
 ·omega
 ·have := melt_bd hd m0 m1 (by omega)
  omega
theorem newLeft_bd {l : List Cell} {f : Nat -> Int} {soaks down : Int} (hc : CsOk l) (hf : LvOk l f) (h0 : 0 <= soaks) (h1 : soaks <= down) (h2 : down <= 10000) (h8 : l.length <= 8) : 0 <= newLeft l f down soaks /\ newLeft l f down soaks <= 100000000 := by
 have a := leftA_bd hc hf h0 h1 h2 l.length (Nat.le_refl _)
 have b := leftB_bd hc hf h0 (by omega) h8 l.length (Nat.le_refl _)
 unfold newLeft
 omega
theorem dayStep_ok {l : List Cell} {melt soak : Int} {d : Day} {r : Int} {x : St} {k : Nat} (hc : CsOk l) (h8 : l.length <= 8) (hd : DayOk d) (m0 : 0 <= melt) (m1 : melt <= 50) (k0 : 0 <= soak) (k1 : soak <= 1000) (r0 : 0 <= r) (r1 : r <= 1000) (h : StOk l k x) : StOk l (k + 1) (dayStep l melt soak d r x) := by
 have hdn := down_bd hd m0 m1 r0 r1 h.snow0
 have hsk := soaks_bd k0 k1 hdn.1
 have hsn := snow_bd hd m0 m1 r0 r1 h.snow0
 have hl := newLeft_bd hc h.lv hsk.2.2.1 hsk.2.2.2 (by omega) h8
 have := h.snow1
 exact ⟨newLv_ok hc h.lv hsk.2.2.1 (by omega), hsn.1, by show snowOf _ _ _ _ <= _; omega, hl.1, hl.2⟩
structure WayOk (l : List Cell) (melt soak : Int) (days : List Day) (rain : List Int) (x : St) : Prop where
 cells : CsOk l
 few : l.length <= 8
 melt0 : 0 <= melt
 melt1 : melt <= 50
 soak0 : 0 <= soak
 soak1 : soak <= 1000
 ds : DsOk days
 many : days.length <= 30
 rs : RsOk days rain
 rains : rain.length = days.length
 start : StOk l 0 x
theorem stAt_ok {l : List Cell} {melt soak : Int} {days : List Day} {rain : List Int} {x : St} (h : WayOk l melt soak days rain x) : ∀ k, k <= days.length -> StOk l k (stAt l melt soak days rain x k)
 | 0, _ => h.start
 | k + 1, hk => dayStep_ok h.cells h.few (h.ds k (by omega)) h.melt0 h.melt1 h.soak0 h.soak1 (h.rs k (by omega)).1 (h.rs k (by omega)).2 (stAt_ok h k (by omega))
end

section
open Go.RowKit

structure Way where
 l : List Cell
 A : Option Addr
 ap : Nat
 slo : Int
 shi : Int
 klo : Int
 khi : Int
 melt : Int
 days : List Day
 D : Option Addr
 dp : Nat
 tsnow : Int
 soak : Int
 levels : List Int
 L : Option Addr
 lp : Nat
 rain : List Int
 R : Option Addr
 rp : Nat
def wayCs (s : Way) (f : Nat -> Int) (snow left : Int) : Array Value :=
 #[.slice s.A s.l.length s.ap, vi s.slo, vi s.shi, vi s.klo, vi s.khi, vi s.melt, .slice s.D s.days.length s.dp, vi s.tsnow, vi s.soak, .slice s.L s.levels.length s.lp, .slice s.R s.rain.length s.rp,
  vi (f 0), vi (f 1), vi (f 2), vi (f 3), vi (f 4), vi (f 5), vi (f 6), vi (f 7), vi snow, vi left]
theorem wayCs_level (s : Way) (f : Nat -> Int) (snow left : Int) {k : Nat} (h : k < 8) : (wayCs s f snow left)[11 + k]? = some (vi (f k)) := by
 rcases lt8 h with rfl | rfl | rfl | rfl | rfl | rfl | rfl | rfl <;> rfl
theorem wayCs_set_level (s : Way) (f : Nat -> Int) (snow left : Int) {k : Nat} (h : k < 8) (x : Int) : (wayCs s f snow left).setIfInBounds (11 + k) (vi x) = wayCs s (upd f k x) snow left := by
 rcases lt8 h with rfl | rfl | rfl | rfl | rfl | rfl | rfl | rfl <;> rfl
theorem wayCs_set_snow (s : Way) (f : Nat -> Int) (snow left x : Int) : (wayCs s f snow left).setIfInBounds 19 (vi x) = wayCs s f x left := rfl
structure OnWay (w : World) (b : Nat) (s : Way) (f : Nat -> Int) (snow left : Int) : Prop where
 blk : Whole w b 124 (wayCs s f snow left)
 cells : Row cellL 7 w b s.A s.l
 days : Row dayL 3 w b s.D s.days
 levels : Row intL 1 w b s.L s.levels
 rain : Row intL 1 w b s.R s.rain
theorem OnWay.grown {w w' : World} {b : Nat} {s : Way} {f : Nat -> Int} {snow left : Int} {f' : Nat -> Int} {snow' left' : Int} (h : OnWay w b s f snow left) (hg : w.grownBy w' (some b)) (hb : Whole w' b 124 (wayCs s f' snow' left')) : OnWay w' b s f' snow' left' := by
 have hB := below_of_grown hg (Nat.le_refl b) (Nat.le_of_lt h.blk.lt)
 exact ⟨hb, h.cells.below hB, h.days.below hB, h.levels.below hB, h.rain.below hB⟩
set_option maxHeartbeats 400000 in
theorem sum2_any (x y : Int) (b : Nat) (w : World) (hx : w.cell? ⟨b, 0, none⟩ = some (.int .i64 x)) (hy : w.cell? ⟨b, 1, none⟩ = some (.int .i64 y)) (x1 : -1000000000 <= x) (x2 : x <= 1000000000) (y1 : -1000000000 <= y) (y2 : y <= 1000000000) :
  Calls Tryz.prog 87 #[.slice (some ⟨b, 0, none⟩) 2 2] w fun e w' => e = .returned (.int .i64 (x + y)) /\ w = w' := by
 go_enter Tryz.func87, Tryz.ntmps87
 go_wp2
 refine wp_loop_rounds 3 ?_
 rw [rounds_succ]
 go_wp2
 rw [rounds_succ]
 go_wp2
 rw [rounds_succ]
 go_wp2
 go_ret
 exact ⟨ret_int (by omega), rfl⟩
set_option maxHeartbeats 1000000 in
theorem fall_cold (s : Way) (f : Nat -> Int) (snow left : Int) (day b : Nat) (d : Day) (r : Int) (w : World) (h : OnWay w b s f snow left) (hd : s.days[day]? = some d) (hr : s.rain[day]? = some r)
  (hw : d.warm <= 0) (s0 : 0 <= snow) (s1 : snow <= 1000000000) (r0 : 0 <= r) (r1 : r <= 1000000) :
  Calls Tryz.prog 68 #[.pointer (some ⟨b, 0, none⟩), .int .i64 day] w fun e w' => e = .returned (.int .i64 0) /\ w.grownBy w' (some b) /\ OnWay w' b s f (snow + r) left := by
 obtain ⟨b2, off, eD, _, _, _, hwarm⟩ := row3W h.days hd
 obtain ⟨b3, off3, eR, _, hrain⟩ := row1 h.rain hr
 have hdl : day < s.days.length := (List.getElem?_eq_some_iff.1 hd).1
 have hrl : day < s.rain.length := (List.getElem?_eq_some_iff.1 hr).1
 have c5 := h.blk.at 5 (v := vi s.melt) rfl
 have c6 := h.blk.at 6 (v := .slice s.D s.days.length s.dp) rfl
 have c10 := h.blk.at 10 (v := .slice s.R s.rain.length s.rp) rfl
 have c19 := h.blk.at 19 (v := vi snow) rfl
 have f19 := h.blk.free 19
 rw [eD] at c6
 rw [eR] at c10
 have H := Lib.hid h
 clear h hd hr eD eR
 go_enter Tryz.func68, Tryz.ntmps68
 go_wp2
 go_quiet (fail)
 go_wp2
 go_ret
 have hW := H.out.blk.set 19 (vi (snow + r))
 rw [wayCs_set_snow] at hW
 have hg := grown_drewN (grown_set (p := ⟨b, 19, none⟩) (grown_refl w (some b)) (.inl rfl) (vi (snow + r))) nq
 exact ⟨rfl, hg, H.out.grown hg hW⟩
set_option maxHeartbeats 1000000 in
theorem fall_warm (s : Way) (f : Nat -> Int) (snow left : Int) (day b : Nat) (d : Day) (r : Int) (w : World) (h : OnWay w b s f snow left) (hd : s.days[day]? = some d) (hr : s.rain[day]? = some r)
  (hw : 0 < d.warm) (s0 : 0 <= snow) (s1 : snow <= 1000000000) (r0 : 0 <= r) (r1 : r <= 1000000) (m0 : 0 <= s.melt * d.warm) (m1 : s.melt * d.warm <= 1000000) :
  Calls Tryz.prog 68 #[.pointer (some ⟨b, 0, none⟩), .int .i64 day] w fun e w' => e = .returned (.int .i64 (r + min snow (s.melt * d.warm))) /\ w.grownBy w' (some b) /\ OnWay w' b s f (snow - min snow (s.melt * d.warm)) left := by
 obtain ⟨b2, off, eD, _, _, _, hwarm⟩ := row3W h.days hd
 obtain ⟨b3, off3, eR, _, hrain⟩ := row1 h.rain hr
 have hdl : day < s.days.length := (List.getElem?_eq_some_iff.1 hd).1
 have hrl : day < s.rain.length := (List.getElem?_eq_some_iff.1 hr).1
 have c5 := h.blk.at 5 (v := vi s.melt) rfl
 have c6 := h.blk.at 6 (v := .slice s.D s.days.length s.dp) rfl
 have c10 := h.blk.at 10 (v := .slice s.R s.rain.length s.rp) rfl
 have c19 := h.blk.at 19 (v := vi snow) rfl
 have f19 := h.blk.free 19
 rw [eD] at c6
 rw [eR] at c10
 have H := Lib.hid h
 clear h hd hr eD eR
 have hw' : ¬ d.warm <= 0 := by omega
 by_cases hle : snow <= s.melt * d.warm
 ·have e1 : min snow (s.melt * d.warm) = snow := Int.min_eq_left hle
  rw [e1]
  have hW := H.out.blk.set 19 (vi 0)
  rw [wayCs_set_snow] at hW
  have HW := Lib.hid hW
  clear hW e1
  go_enter Tryz.func68, Tryz.ntmps68
  go_wp2
  go_quiet (fail)
  go_wp2
  go_quiet (fail)
  go_wp2
  go_ret
  have hg := grown_drewN (grown_set (p := ⟨b, 19, none⟩) (grown_refl w (some b)) (.inl rfl) (vi 0))
  rw [Int.sub_self]
  exact ⟨rfl, hg _, H.out.grown (hg _) HW.out⟩
 ·have e1 : min snow (s.melt * d.warm) = s.melt * d.warm := Int.min_eq_right (by omega)
  rw [e1]
  have hW := H.out.blk.set 19 (vi (snow - s.melt * d.warm))
  rw [wayCs_set_snow] at hW
  have HW := Lib.hid hW
  clear hW e1
  go_enter Tryz.func68, Tryz.ntmps68
  go_wp2
  go_quiet (fail)
  go_wp2
  go_quiet (fail)
  go_wp2
  go_ret
  have hg := grown_drewN (grown_set (p := ⟨b, 19, none⟩) (grown_refl w (some b)) (.inl rfl) (vi (snow - s.melt * d.warm)))
  exact ⟨rfl, hg _, H.out.grown (hg _) HW.out⟩
end

section
open Go.RowKit
theorem now_setW {W : World} {g : Nat} {f f' : Nat -> Int} (h : Whole W g 122 (nowCs f)) {k : Nat} (hk : k < 8) (x : Int) (he : ∀ i, f' i = if i = k then x else f i) : Whole (W.setCell ⟨g, k, none⟩ (vi x)) g 122 (nowCs f') := by
 have := h.set k (vi x)
 rw [nowCs_set f hk] at this
 have e : f' = upd f k x := funext fun i => by rw [he i]; rfl
 rw [e]; exact this
theorem level_set {W : World} {g : Nat} {s : Way} {f f' : Nat -> Int} {snow left : Int} (h : Whole W g 124 (wayCs s f snow left)) {k : Nat} (hk : k < 8) (x : Int) (he : ∀ i, f' i = if i = k then x else f i) : Whole (W.setCell ⟨g, 11 + k, none⟩ (vi x)) g 124 (wayCs s f' snow left) := by
 have := h.set (11 + k) (vi x)
 rw [wayCs_set_level s f snow left hk] at this
 have e : f' = upd f k x := funext fun i => by rw [he i]; rfl
 rw [e]; exact this
theorem left_set {W : World} {g : Nat} {s : Way} {f : Nat -> Int} {snow left : Int} (h : Whole W g 124 (wayCs s f snow left)) (x : Int) : Whole (W.setCell ⟨g, 20, none⟩ (vi x)) g 124 (wayCs s f snow x) := h.set 20 (vi x)
structure Mid (w : World) (b : Nat) (s : Way) (f : Nat -> Int) (snow left : Int) (nw : Nat -> Int) (cb : Nat) (c : Cell) (W : World) : Prop where
 grown : w.grownBy W (some b)
 way : OnWay W b s f snow left
 now : Whole W w.heap.size 122 (nowCs nw)
 cell : Whole W cb 86 #[vi c.lo, vi c.hi, vi c.cap, vi c.keep, vi c.pass, vi c.tgt, vi c.pump]
 far : b < w.heap.size /\ w.heap.size < cb
theorem Mid.left {w : World} {b : Nat} {s : Way} {f : Nat -> Int} {snow left : Int} {nw : Nat -> Int} {cb : Nat} {c : Cell} {W : World} (h : Mid w b s f snow left nw cb c W) (x : Int) : Mid w b s f snow x nw cb c (W.setCell ⟨b, 20, none⟩ (vi x)) := by
 have hg := grown_set (p := ⟨b, 20, none⟩) h.grown (.inl rfl) (vi x)
 have hf := h.far
 have hg1 := grown_set (p := ⟨b, 20, none⟩) (grown_refl W (some b)) (.inl rfl) (vi x)
 exact ⟨hg, h.way.grown hg1 (left_set h.way.blk x), h.now.far (by show w.heap.size ≠ b; omega) _, h.cell.far (by show cb ≠ b; omega) _, hf⟩
theorem Mid.turn {w : World} {b : Nat} {s : Way} {f : Nat -> Int} {snow left : Int} {nw nw' : Nat -> Int} {cb : Nat} {c : Cell} {W : World} (h : Mid w b s f snow left nw cb c W) {k : Nat} (hk : k < 8) (x : Int) (he : ∀ i, nw' i = if i = k then x else nw i) :
  Mid w b s f snow left nw' cb c (W.setCell ⟨w.heap.size, k, none⟩ (vi x)) := by
 have hf := h.far
 have hg := grown_set (p := ⟨w.heap.size, k, none⟩) h.grown (.inr (Nat.le_refl _)) (vi x)
 have hB : Below w.heap.size W (W.setCell ⟨w.heap.size, k, none⟩ (vi x)) := (Below.refl _ _).setCell (p := ⟨w.heap.size, k, none⟩) (Nat.le_refl _) _
 have hB' : Below b W (W.setCell ⟨w.heap.size, k, none⟩ (vi x)) := hB.mono (by omega)
 exact ⟨hg, ⟨h.way.blk.far (by show b ≠ w.heap.size; omega) _, h.way.cells.below hB', h.way.days.below hB', h.way.levels.below hB', h.way.rain.below hB'⟩, now_setW h.now hk x he, h.cell.far (by show cb ≠ w.heap.size; omega) _, hf⟩
theorem Mid.alloc {w : World} {b : Nat} {s : Way} {f : Nat -> Int} {snow left : Int} {nw : Nat -> Int} {cb : Nat} {c : Cell} {W : World} (h : Mid w b s f snow left nw cb c W) (o : Obj) : Mid w b s f snow left nw cb c (W.alloc o) := by
 have hB : Below b W (W.alloc o) := (Below.refl _ _).alloc (Nat.le_of_lt h.way.blk.lt) _
 exact ⟨grown_alloc h.grown _, ⟨h.way.blk.alloc _, h.way.cells.below hB, h.way.days.below hB, h.way.levels.below hB, h.way.rain.below hB⟩, h.now.alloc _, h.cell.alloc _, h.far⟩
theorem Mid.drewN {w : World} {b : Nat} {s : Way} {f : Nat -> Int} {snow left : Int} {nw : Nat -> Int} {cb : Nat} {c : Cell} {W : World} (h : Mid w b s f snow left nw cb c W) (n : Nat) : Mid w b s f snow left nw cb c (W.drewN n) :=
 ⟨grown_drewN h.grown n, ⟨h.way.blk, h.way.cells, h.way.days, h.way.levels, h.way.rain⟩, h.now, h.cell, h.far⟩
theorem Mid.drew {w : World} {b : Nat} {s : Way} {f : Nat -> Int} {snow left : Int} {nw : Nat -> Int} {cb : Nat} {c : Cell} {W : World} (h : Mid w b s f snow left nw cb c W) : Mid w b s f snow left nw cb c W.drew :=
 ⟨⟨h.grown.os, h.grown.tape, h.grown.output, h.grown.size, h.grown.block⟩, ⟨h.way.blk, h.way.cells, h.way.days, h.way.levels, h.way.rain⟩, h.now, h.cell, h.far⟩
theorem Mid.level {w : World} {b : Nat} {s : Way} {f f' : Nat -> Int} {snow left : Int} {nw : Nat -> Int} {cb : Nat} {c : Cell} {W : World} (h : Mid w b s f snow left nw cb c W) {k : Nat} (hk : k < 8) (x : Int) (he : ∀ i, f' i = if i = k then x else f i) :
  Mid w b s f' snow left nw cb c (W.setCell ⟨b, 11 + k, none⟩ (vi x)) := by
 have hg := grown_set (p := ⟨b, 11 + k, none⟩) h.grown (.inl rfl) (vi x)
 have hf := h.far
 have hg1 := grown_set (p := ⟨b, 11 + k, none⟩) (grown_refl W (some b)) (.inl rfl) (vi x)
 exact ⟨hg, h.way.grown hg1 (level_set h.way.blk hk x he), h.now.far (by show w.heap.size ≠ b; omega) _, h.cell.far (by show cb ≠ b; omega) _, hf⟩
theorem OnWay.alloc {W : World} {b : Nat} {s : Way} {f : Nat -> Int} {snow left : Int} (h : OnWay W b s f snow left) (o : Obj) : OnWay (W.alloc o) b s f snow left := by
 have hB : Below b W (W.alloc o) := (Below.refl _ _).alloc (Nat.le_of_lt h.blk.lt) _
 exact ⟨h.blk.alloc _, h.cells.below hB, h.days.below hB, h.levels.below hB, h.rain.below hB⟩
def lvTo (l : List Cell) (f : Nat -> Int) (soaks : Int) (j i : Nat) : Int := if i < j then newLv l f soaks i else f i
theorem lvTo_zero (l : List Cell) (f : Nat -> Int) (soaks : Int) : lvTo l f soaks 0 = f := by funext i; simp [lvTo]
theorem lvTo_step (l : List Cell) (f : Nat -> Int) (soaks : Int) (j : Nat) (c : Cell) (hc : l[j]? = some c) (i : Nat) : lvTo l f soaks (j + 1) i = if i = j then min (nowF l f soaks l.length j) c.cap else lvTo l f soaks j i := by
 have hl : j < l.length := (List.getElem?_eq_some_iff.1 hc).1
 unfold lvTo
 by_cases h1 : i = j
 ·subst h1
  rw [if_pos (by omega), if_pos rfl]
  unfold newLv
  rw [if_pos hl, cAt_of hc]
 ·rw [if_neg h1]
  by_cases h2 : i < j
  ·rw [if_pos (by omega), if_pos h2]
  ·rw [if_neg (by omega), if_neg h2]
theorem lvTo_all (l : List Cell) (f : Nat -> Int) (soaks : Int) : lvTo l f soaks l.length = newLv l f soaks := by
 funext i
 unfold lvTo
 split
 ·rfl
 ·rename_i h
  unfold newLv
  rw [if_neg h]
def baseNow (l : List Cell) (f : Nat -> Int) (soaks : Int) (k : Nat) (c : Cell) (i : Nat) : Int := nowF l f soaks k i + if i = k then baseF c (f k) soaks else 0
set_option maxRecDepth 100000 in
set_option maxHeartbeats 1000000 in
theorem pass_any (s : Way) (f : Nat -> Int) (snow left down soaks : Int) (b : Nat) (w : World) (h : OnWay w b s f snow left) (hc : CsOk s.l) (hf : LvOk s.l f) (h8 : s.l.length <= 8)
  (d0 : 0 <= down) (d1 : down <= 10000) (p0 : 0 <= down * s.soak) (p1 : down * s.soak <= 10000000) (hs : soaks = down * s.soak / 1000) (hs1 : soaks <= down) :
  Calls Tryz.prog 69 #[.pointer (some ⟨b, 0, none⟩), .int .i64 down] w fun e w' => e = .returned (.tuple #[]) /\ w.grownBy w' (some b) /\ OnWay w' b s (newLv s.l f soaks) snow (newLeft s.l f down soaks) := by
 obtain ⟨l, A, ap, slo, shi, klo, khi, melt, days, D, dp, tsnow, soak, levels, L, lp, rain, R, rp⟩ := s
 dsimp only at hc hf h8 p0 p1 hs ⊢
 have c0 := h.blk.at 0 (v := .slice A l.length ap) rfl
 have c8 := h.blk.at 8 (v := vi soak) rfl
 have c20 := h.blk.at 20 (v := vi left) rfl
 have f20 := h.blk.free 20
 have hlt := h.blk.lt
 have hne : ¬ b = w.heap.size := by omega
 have H := Lib.hid h
 clear h
 obtain ⟨n, hn⟩ : ∃ n, n = l.length := ⟨_, rfl⟩
 rw [<- hn] at c0 h8
 have HN := Lib.hid hn
 clear hn
 have HS := Lib.hid hs
 clear hs
 go_enter Tryz.func69, Tryz.ntmps69
 go_wp2
 rw [<- HS.out]
 have s0 : 0 <= soaks := by have := HS.out; omega
 clear p0 p1 c8 c20 f20 c0
 go_loopw [6, 7, 8, 9, 10, 30] (fun _ _ _ _ _ i wr => ∃ k : Nat, k <= n /\ i = .int .i64 k /\ w.grownBy wr (some b) /\ OnWay wr b ⟨l, A, ap, slo, shi, klo, khi, melt, days, D, dp, tsnow, soak, levels, L, lp, rain, R, rp⟩ f snow (leftA l f down soaks k) /\ Whole wr w.heap.size 122 (nowCs (nowF l f soaks k))) (fun _ _ _ _ _ i _ => n - (intOf i).toNat)
 case atStart =>
  have h0 := left_set (H.out).blk 0
  have hsz : (w.setCell ⟨b, 20, none⟩ (vi 0)).heap.size = w.heap.size := by simp [World.setCell]
  have hg0 := grown_set (p := ⟨b, 20, none⟩) (grown_refl w (some b)) (.inl rfl) (vi 0)
  have hw0 := (H.out).grown hg0 h0
  have hmade := Whole.made (w.setCell ⟨b, 20, none⟩ (vi 0)) 122 (nowCs (fun _ => 0))
  rw [hsz] at hmade
  have e0 : nowF l f soaks 0 = fun _ => 0 := by funext i; simp [nowF, inflow]
  refine ⟨0, Nat.zero_le _, rfl, grown_alloc hg0 _, hw0.alloc _, ?_⟩
  rw [e0]
  exact hmade
 case round =>
  obtain ⟨k, hk, rfl, hg, hway, hnow⟩ := hrel
  by_cases hlt : k < n
  ·obtain ⟨c, hck⟩ := get_of_lt (l := l) (k := k) (by have := HN.out; omega)
   obtain ⟨b2, off, eA, _, h0, h1, h2, h3, h4, h5, h6⟩ := row7 hway.cells hck
   have hok := hc k (by have := HN.out; omega)
   rw [cAt_of hck] at hok
   obtain ⟨x0, x1⟩ := hf k (by have := HN.out; omega)
   have cl := hway.blk.at (11 + k) (wayCs_level _ f snow _ (show k < 8 by omega))
   have cn := hnow.at k (nowCs_at _ (show k < 8 by omega))
   have fn := hnow.free k
   have lb := leftA_bd hc hf s0 hs1 d1 k (by have := HN.out; omega)
   have nb := now_bd hc hf s0 (by omega) k k (by have := HN.out; omega)
   have hlt2 : b < wr.heap.size := hway.blk.lt
   have hlt3 : w.heap.size < wr.heap.size := hnow.lt
   have hne2 : ¬ b = wr.heap.size := by omega
   have hne3 : ¬ w.heap.size = wr.heap.size := by omega
   have k1 := hok.keep1
   have k2 := hok.pump1
   have k3 := hok.keep2
   have k4 := hok.cap2
   have HMID : Hid (Mid w b ⟨l, A, ap, slo, shi, klo, khi, melt, days, D, dp, tsnow, soak, levels, L, lp, rain, R, rp⟩ f snow (leftA l f down soaks k) (nowF l f soaks k) wr.heap.size c (wr.alloc (.cells #[vi c.lo, vi c.hi, vi c.cap, vi c.keep, vi c.pass, vi c.tgt, vi c.pump] 86))) := by
    have hB : Below b wr (wr.alloc (.cells #[vi c.lo, vi c.hi, vi c.cap, vi c.keep, vi c.pass, vi c.tgt, vi c.pump] 86)) := (Below.refl _ _).alloc (by omega) _
    exact ⟨grown_alloc hg _, ⟨hway.blk.alloc _, hway.cells.below hB, hway.days.below hB, hway.levels.below hB, hway.rain.below hB⟩, hnow.alloc _, Whole.made _ _ _, by omega, by omega⟩
   have HC := Lib.hid hck
   dsimp only at eA
   subst eA
   clear hway hnow hck hg
   obtain ⟨cb, hcb⟩ : ∃ cb, cb = wr.heap.size := ⟨_, rfl⟩
   have HCB := Lib.hid hcb
   have tb := taken_bd hok x0
   go_upto_region 6 with fail
   rw [<- hcb] at HMID ⊢
   clear hcb h0 h1 h2 h3 h4 h5 h6 cl cn fn hlt2 hlt3 hne2 hne3
   refine gen_world (Mid w b ⟨l, some ⟨b2, off, none⟩, ap, slo, shi, klo, khi, melt, days, D, dp, tsnow, soak, levels, L, lp, rain, R, rp⟩ f snow (leftA l f down soaks k) (nowF l f soaks k) cb c) HMID.out ?_
   intro wv hm
   clear HMID
   have cl := hm.way.blk.at (11 + k) (wayCs_level _ f snow _ (show k < 8 by omega))
   have m6 := hm.cell.at 6 (v := vi c.pump) rfl
   have HM := Lib.hid hm
   clear hm
   go_cut [8] (fun s8 wx => s8 = .int .i64 (takenF c (f k)) /\ Mid w b ⟨l, some ⟨b2, off, none⟩, ap, slo, shi, klo, khi, melt, days, D, dp, tsnow, soak, levels, L, lp, rain, R, rp⟩ f snow (leftA l f down soaks k) (nowF l f soaks k) cb c wx)
   case first =>
    by_cases hA : f k <= c.pump
    ·have e1 : takenF c (f k) = f k := by unfold takenF; omega
     have E1 := Lib.hid e1
     clear e1
     go_quiet (fail)
     go_wp2_with fail
     go_meet
     exact ⟨by rw [E1.out], (HM.out).drewN _⟩
    ·have e1 : takenF c (f k) = c.pump := by unfold takenF; omega
     have E1 := Lib.hid e1
     clear e1
     go_quiet (fail)
     go_wp2_with fail
     go_meet
     exact ⟨by rw [E1.out], (HM.out).drewN _⟩
   case rest =>
    obtain ⟨rfl, hm⟩ := hcut
    clear HM cl m6
    have cl := hm.way.blk.at (11 + k) (wayCs_level _ f snow _ (show k < 8 by omega))
    have m3 := hm.cell.at 3 (v := vi c.keep) rfl
    have m4 := hm.cell.at 4 (v := vi c.pass) rfl
    have HM := Lib.hid hm
    clear hm
    have ob := on_bd hok x0 x1
    have vb := over_bd hok x0
    have pb := prod_bd hok x0 x1
    go_upto_region 8 with fail
    go_cut [10] (fun s10 wx => s10 = .int .i64 (onF c (f k)) /\ Mid w b ⟨l, some ⟨b2, off, none⟩, ap, slo, shi, klo, khi, melt, days, D, dp, tsnow, soak, levels, L, lp, rain, R, rp⟩ f snow (leftA l f down soaks k) (nowF l f soaks k) cb c wx)
    case first =>
     by_cases hA : f k - takenF c (f k) - c.keep <= 0
     ·have e1 : onF c (f k) = 0 := by unfold onF overF staysF; rw [Int.max_eq_left hA]; simp
      have E1 := Lib.hid e1
      clear e1
      go_wp2_with fail
      go_meet
      exact ⟨by rw [E1.out], HM.out⟩
     ·have e2 : overF c (f k) = f k - takenF c (f k) - c.keep := by unfold overF staysF; omega
      rw [e2] at pb
      have E1 : Hid (onF c (f k) = (f k - takenF c (f k) - c.keep) * c.pass / 1000) := by unfold onF; rw [e2]; exact rfl
      clear e2
      go_wp2_with fail
      go_meet
      exact ⟨by rw [E1.out], HM.out⟩
    case rest =>
     obtain ⟨rfl, hm⟩ := hcut
     clear HM cl m3 m4 pb
     have cn := hm.now.at k (nowCs_at _ (show k < 8 by omega))
     have fn := hm.now.free k
     have HM := Lib.hid hm
     clear hm
     go_upto_region 10 with fail
     refine gen_world (Mid w b ⟨l, some ⟨b2, off, none⟩, ap, slo, shi, klo, khi, melt, days, D, dp, tsnow, soak, levels, L, lp, rain, R, rp⟩ f snow (leftA l f down soaks k) (baseNow l f soaks k c) cb c) ?_ ?_
     ·refine (HM.out).turn (by omega) _ ?_
      intro i
      unfold baseNow baseF staysF
      split
      ·rename_i hi; subst hi; omega
      ·omega
     intro wv hm
     clear HM cn fn
     have c20 := hm.way.blk.at 20 (v := vi (leftA l f down soaks k)) rfl
     have f20 := hm.way.blk.free 20
     have hb1 : ¬ b = wv.heap.size := by have := hm.way.blk.lt; omega
     have HM := Lib.hid hm
     clear hm
     go_cut [8] (fun s8 wx => s8 = .int .i64 (takenF c (f k)) /\ Mid w b ⟨l, some ⟨b2, off, none⟩, ap, slo, shi, klo, khi, melt, days, D, dp, tsnow, soak, levels, L, lp, rain, R, rp⟩ f snow (leftA l f down soaks k + (down - soaks + takenF c (f k))) (baseNow l f soaks k c) cb c wx)
     case first =>
      have z1 : -1000000000 <= down - soaks := by omega
      have z2 : down - soaks <= 1000000000 := by omega
      have z3 : -1000000000 <= takenF c (f k) := by omega
      have z4 : takenF c (f k) <= 1000000000 := by omega
      have q1 : IntKind.i64.wrap (down - soaks) = down - soaks := IntWalk.i64_in _ (by omega)
      have q2 : IntKind.i64.wrap (leftA l f down soaks k + (down - soaks + takenF c (f k))) = leftA l f down soaks k + (down - soaks + takenF c (f k)) := IntWalk.i64_in _ (by omega)
      have hsum : Calls Tryz.prog 87 #[.slice (some ⟨wv.heap.size, 0, none⟩) 2 2] (wv.alloc (.cells #[.int .i64 (down - soaks), .int .i64 (takenF c (f k))] 3)).drew fun e w' => e = .returned (.int .i64 (down - soaks + takenF c (f k))) /\ (wv.alloc (.cells #[.int .i64 (down - soaks), .int .i64 (takenF c (f k))] 3)).drew = w' :=
       sum2_any _ _ _ _ ((Whole.made wv 3 #[.int .i64 (down - soaks), .int .i64 (takenF c (f k))]).at 0 rfl) ((Whole.made wv 3 #[.int .i64 (down - soaks), .int .i64 (takenF c (f k))]).at 1 rfl) z1 z2 z3 z4
      have g1 := ((HM.out).alloc (.cells #[.int .i64 (down - soaks), .int .i64 (takenF c (f k))] 3)).way.blk.at 20 (v := vi (leftA l f down soaks k)) rfl
      have g2 := ((HM.out).alloc (.cells #[.int .i64 (down - soaks), .int .i64 (takenF c (f k))] 3)).way.blk.free 20
      have HSUM := Lib.hid hsum
      clear hsum z1 z2 z3 z4
      go_region_with (go_at_call 87; go_loud (refine (HSUM.out).mono ?_); rintro e w' ⟨rfl, rfl⟩)
      all_goals (go_wp2_with fail; go_meet; exact ⟨rfl, (((HM.out).alloc _).left _).drew⟩)
     case rest =>
      obtain ⟨rfl, hm⟩ := hcut
      clear HM c20 f20 hb1
      have c20 := hm.way.blk.at 20 (v := vi (leftA l f down soaks k + (down - soaks + takenF c (f k)))) rfl
      have f20 := hm.way.blk.free 20
      have m5 := hm.cell.at 5 (v := vi c.tgt) rfl
      by_cases ht : c.tgt = -1
      ·have HM := Lib.hid hm
       clear hm
       go_wp2_with fail
       have hm2 := (HM.out).left (leftA l f down soaks k + (down - soaks + takenF c (f k)) + onF c (f k))
       have ea : leftA l f down soaks (k + 1) = leftA l f down soaks k + (down - soaks + takenF c (f k)) + onF c (f k) := by rw [leftA_step _ _ _ _ _ c HC.out, if_pos ht]
       have en : nowF l f soaks (k + 1) = baseNow l f soaks k c := funext fun i => by
        rw [nowF_step _ _ _ _ _ c HC.out, if_neg (show ¬ c.tgt = (i : Int) by omega)]
        unfold baseNow
        omega
       exact ⟨⟨k + 1, by omega, by push_cast; rfl, hm2.grown, by rw [ea]; exact hm2.way, by rw [en]; exact hm2.now⟩, by (simp only [intOf]; omega)⟩
      ·obtain ⟨t, htt⟩ : ∃ t : Nat, c.tgt = t := ⟨c.tgt.toNat, by have := hok.to1; omega⟩
       have ht8 : t < 8 := by have := hok.to2; have := HN.out; omega
       have ht8i : (t : Int) < 8 := by omega
       rw [htt] at m5
       have cn := hm.now.at t (nowCs_at _ ht8)
       have fn := hm.now.free t
       have nt : 0 <= baseNow l f soaks k c t /\ baseNow l f soaks k c t <= 100000000 := by
        have a1 := now_bd hc hf s0 (by omega) k t (by have := HN.out; omega)
        have a2 := base_bd hok x0 x1 s0 (show soaks <= 10000 by omega)
        unfold baseNow
        split <;> omega
       have HM := Lib.hid hm
       have HT := Lib.hid htt
       clear hm htt ht
       go_wp2_with fail
       have hm2 := (HM.out).turn (nw' := nowF l f soaks (k + 1)) ht8 (baseNow l f soaks k c t + onF c (f k)) (fun i => by
        rw [nowF_step _ _ _ _ _ c HC.out, HT.out]
        unfold baseNow
        by_cases hi : i = t
        ·subst hi; rw [if_pos rfl, if_pos rfl]
        ·rw [if_neg hi, if_neg (show ¬ (t : Int) = (i : Int) by omega)]; omega)
       have ea : leftA l f down soaks (k + 1) = leftA l f down soaks k + (down - soaks + takenF c (f k)) := by rw [leftA_step _ _ _ _ _ c HC.out, if_neg (by rw [HT.out]; omega)]; omega
       exact ⟨⟨k + 1, by omega, by push_cast; rfl, hm2.grown, by rw [ea]; exact hm2.way, hm2.now⟩, by (simp only [intOf]; omega)⟩
  ·have hkn : k = n := by omega
   subst hkn
   have c0 := hway.blk.at 0 (v := .slice A l.length ap) rfl
   rw [<- HN.out] at c0
   have lb := leftA_bd hc hf s0 hs1 d1 k (by have := HN.out; omega)
   have HW := Lib.hid (And.intro hg (And.intro hway hnow))
   clear hg hway hnow
   go_wp2_with fail
   clear c0
   go_loopw [11, 12, 109] (fun _ _ i wr2 => ∃ j : Nat, j <= k /\ i = .int .i64 j /\ w.grownBy wr2 (some b) /\ OnWay wr2 b ⟨l, A, ap, slo, shi, klo, khi, melt, days, D, dp, tsnow, soak, levels, L, lp, rain, R, rp⟩ (lvTo l f soaks j) snow (leftA l f down soaks k + leftB l f soaks j) /\ Whole wr2 w.heap.size 122 (nowCs (nowF l f soaks k))) (fun _ _ i _ => k - (intOf i).toNat)
   case atStart =>
    obtain ⟨a1, a2, a3⟩ := HW.out
    refine ⟨0, Nat.zero_le _, rfl, a1, ?_, a3⟩
    rw [lvTo_zero]
    simpa [leftB] using a2
   case round =>
    obtain ⟨j, hj, rfl, hg, hway, hnow⟩ := hrel
    clear HW
    by_cases hjn : j < k
    ·obtain ⟨c, hck⟩ := get_of_lt (l := l) (k := j) (by have := HN.out; omega)
     obtain ⟨b2, off, eA, _, h0, h1, h2, h3, h4, h5, h6⟩ := row7 hway.cells hck
     have hok := hc j (by have := HN.out; omega)
     rw [cAt_of hck] at hok
     have nb := now_bd hc hf s0 (by omega) k j (by have := HN.out; omega)
     have bb := leftB_bd hc hf s0 (by omega) (by have := HN.out; omega) j (by have := HN.out; omega)
     have k1 := hok.cap1
     have k2 := hok.cap2
     have hlt2 : b < wr.heap.size := hway.blk.lt
     have hlt3 : w.heap.size < wr.heap.size := hnow.lt
     have HMID : Hid (Mid w b ⟨l, A, ap, slo, shi, klo, khi, melt, days, D, dp, tsnow, soak, levels, L, lp, rain, R, rp⟩ (lvTo l f soaks j) snow (leftA l f down soaks k + leftB l f soaks j) (nowF l f soaks k) wr.heap.size c (wr.alloc (.cells #[vi c.lo, vi c.hi, vi c.cap, vi c.keep, vi c.pass, vi c.tgt, vi c.pump] 86))) :=
      ⟨grown_alloc hg _, hway.alloc _, hnow.alloc _, Whole.made _ _ _, by omega, hlt3⟩
     have HC := Lib.hid hck
     dsimp only at eA
     subst eA
     clear hway hnow hck hg
     obtain ⟨cb, hcb⟩ : ∃ cb, cb = wr.heap.size := ⟨_, rfl⟩
     go_upto_region 18 with fail
     rw [<- hcb] at HMID ⊢
     clear hcb h0 h1 h2 h3 h4 h5 h6 hlt2 hlt3
     refine gen_world (Mid w b ⟨l, some ⟨b2, off, none⟩, ap, slo, shi, klo, khi, melt, days, D, dp, tsnow, soak, levels, L, lp, rain, R, rp⟩ (lvTo l f soaks j) snow (leftA l f down soaks k + leftB l f soaks j) (nowF l f soaks k) cb c) HMID.out ?_
     intro wv hm
     clear HMID
     have c20 := hm.way.blk.at 20 (v := vi (leftA l f down soaks k + leftB l f soaks j)) rfl
     have f20 := hm.way.blk.free 20
     have cn := hm.now.at j (nowCs_at _ (show j < 8 by omega))
     have m2 := hm.cell.at 2 (v := vi c.cap) rfl
     have HM := Lib.hid hm
     clear hm
     have hj8 : (j : Int) < 8 := by omega
     have hj0 : 0 <= (j : Int) := by omega
     go_cut [] (fun wx => Mid w b ⟨l, some ⟨b2, off, none⟩, ap, slo, shi, klo, khi, melt, days, D, dp, tsnow, soak, levels, L, lp, rain, R, rp⟩ (lvTo l f soaks j) snow (leftA l f down soaks k + leftB l f soaks (j + 1)) (nowF l f soaks k) cb c wx)
     case first =>
      have q0 : IntKind.i64.wrap (nowF l f soaks k j - c.cap) = nowF l f soaks k j - c.cap := IntWalk.i64_in _ (by omega)
      by_cases hA : nowF l f soaks k j - c.cap <= 0
      ·have e1 : leftB l f soaks (j + 1) = leftB l f soaks j := by
        rw [leftB_step l f soaks j c HC.out, <- HN.out, Int.max_eq_left hA]
        omega
       have E1 := Lib.hid e1
       clear e1
       have q1 : IntKind.i64.wrap (leftA l f down soaks k + leftB l f soaks j) = leftA l f down soaks k + leftB l f soaks j := IntWalk.i64_in _ (by omega)
       refine wp_region_still_tail 14 (by kernel_rfl) (by kernel_rfl) ?_
       simp only [List.take_succ_cons, List.take_zero, List.drop_succ_cons, List.drop_zero]
       change wpStill Tryz.prog _ (World.drew _) _ _ _
       repeat still_step
       refine wpStill_nil ?_
       change wpList _ _ _ _ _ (World.drew _)
       go_wp2_with fail
       go_meet
       rw [E1.out]
       first | exact ((HM.out).left _) | exact ((HM.out).left _).drew | exact ((HM.out).left _).drewN _
      ·have e1 : leftB l f soaks (j + 1) = leftB l f soaks j + (nowF l f soaks k j - c.cap) := by
        rw [leftB_step l f soaks j c HC.out, <- HN.out, Int.max_eq_right (by omega)]
       have E1 : Hid (leftA l f down soaks k + leftB l f soaks (j + 1) = leftA l f down soaks k + leftB l f soaks j + (nowF l f soaks k j - c.cap)) := by
        show _ = _
        rw [e1]
        omega
       clear e1
       have q1 : IntKind.i64.wrap (leftA l f down soaks k + leftB l f soaks j + (nowF l f soaks k j - c.cap)) = leftA l f down soaks k + leftB l f soaks j + (nowF l f soaks k j - c.cap) := IntWalk.i64_in _ (by omega)
       refine wp_region_still_tail 14 (by kernel_rfl) (by kernel_rfl) ?_
       simp only [List.take_succ_cons, List.take_zero, List.drop_succ_cons, List.drop_zero]
       change wpStill Tryz.prog _ (World.drew _) _ _ _
       repeat still_step
       refine wpStill_nil ?_
       change wpList _ _ _ _ _ (World.drew _)
       go_wp2_with fail
       go_meet
       rw [E1.out]
       first | exact ((HM.out).left _) | exact ((HM.out).left _).drew | exact ((HM.out).left _).drewN _
     case rest =>
      have hm := hcut
      clear HM c20 f20 cn m2 hcut
      have cl := hm.way.blk.at (11 + j) (wayCs_level _ _ snow _ (show j < 8 by omega))
      have fl := hm.way.blk.free (11 + j)
      have cn := hm.now.at j (nowCs_at _ (show j < 8 by omega))
      have m2 := hm.cell.at 2 (v := vi c.cap) rfl
      have HM := Lib.hid hm
      clear hm
      go_upto_region 19 with fail
      by_cases hA : nowF l f soaks k j <= c.cap
      ·have he : Hid (∀ i, lvTo l f soaks (j + 1) i = if i = j then nowF l f soaks k j else lvTo l f soaks j i) := by
        intro i
        rw [lvTo_step l f soaks j c HC.out, <- HN.out, Int.min_eq_left hA]
       refine wp_region_still_tail 11 (by kernel_rfl) (by kernel_rfl) ?_
       simp only [List.take_succ_cons, List.take_zero, List.drop_succ_cons, List.drop_zero]
       change wpStill Tryz.prog _ (World.drew _) _ _ _
       repeat still_step
       refine wpStill_nil ?_
       change wpList _ _ _ _ _ (World.drew _)
       go_wp2_with fail
       have hm := ((HM.out).level (show j < 8 by omega) _ he.out).drew
       exact ⟨⟨j + 1, by omega, by push_cast; rfl, hm.grown, hm.way, hm.now⟩, by (simp only [intOf]; omega)⟩
      ·have he : Hid (∀ i, lvTo l f soaks (j + 1) i = if i = j then c.cap else lvTo l f soaks j i) := by
        intro i
        rw [lvTo_step l f soaks j c HC.out, <- HN.out, Int.min_eq_right (by omega)]
       refine wp_region_still_tail 11 (by kernel_rfl) (by kernel_rfl) ?_
       simp only [List.take_succ_cons, List.take_zero, List.drop_succ_cons, List.drop_zero]
       change wpStill Tryz.prog _ (World.drew _) _ _ _
       repeat still_step
       refine wpStill_nil ?_
       change wpList _ _ _ _ _ (World.drew _)
       go_wp2_with fail
       have hm := ((HM.out).level (show j < 8 by omega) _ he.out).drew
       exact ⟨⟨j + 1, by omega, by push_cast; rfl, hm.grown, hm.way, hm.now⟩, by (simp only [intOf]; omega)⟩
    ·have hkj : j = k := by omega
     subst hkj
     have hE : Hid (w.grownBy wr (some b) /\ OnWay wr b ⟨l, A, ap, slo, shi, klo, khi, melt, days, D, dp, tsnow, soak, levels, L, lp, rain, R, rp⟩ (newLv l f soaks) snow (newLeft l f down soaks)) := by
      refine ⟨hg, ?_⟩
      have e1 := lvTo_all l f soaks
      rw [<- HN.out] at e1
      unfold newLeft
      rw [<- HN.out, <- e1]
      exact hway
     clear hg hway hnow
     go_wp2_with fail
     go_end0; exact ⟨rfl, hE.out⟩
end

section
open Go.RowKit Go.Shelf
theorem OnWay.below {w w' : World} {b B : Nat} {s : Way} {f : Nat -> Int} {snow left : Int} (h : OnWay w b s f snow left) (hb : Below B w w') (hB : b < B) : OnWay w' b s f snow left :=
 ⟨h.blk.below hb hB, h.cells.below (hb.mono (by omega)), h.days.below (hb.mono (by omega)), h.levels.below (hb.mono (by omega)), h.rain.below (hb.mono (by omega))⟩
theorem fall_any (s : Way) (f : Nat -> Int) (snow left : Int) (day b : Nat) (w : World) (h : OnWay w b s f snow left) (hd : day < s.days.length) (hr : s.rain.length = s.days.length) (ok : DayOk (dAtW s.days day)) (m0 : 0 <= s.melt) (m1 : s.melt <= 50)
  (s0 : 0 <= snow) (s1 : snow <= 1000000000) (r0 : 0 <= iAt s.rain day) (r1 : iAt s.rain day <= 1000) :
  Calls Tryz.prog 68 #[.pointer (some ⟨b, 0, none⟩), .int .i64 day] w fun e w' => e = .returned (.int .i64 (downOf s.melt (dAtW s.days day) (iAt s.rain day) snow)) /\ w.grownBy w' (some b) /\ OnWay w' b s f (snowOf s.melt (dAtW s.days day) (iAt s.rain day) snow) left := by
 obtain ⟨d, hd'⟩ := get_of_lt hd
 obtain ⟨r, hr'⟩ := get_of_lt (l := s.rain) (k := day) (by omega)
 rw [dAt_of hd'] at ok ⊢
 rw [iAt_of hr'] at r0 r1 ⊢
 unfold downOf snowOf meltOf
 by_cases hw : d.warm <= 0
 ·rw [if_pos hw, if_pos hw]
  exact fall_cold s f snow left day b d r w h hd' hr' hw s0 s1 r0 (by omega)
 ·rw [if_neg hw, if_neg hw]
  have hm := melt_bd ok m0 m1 (by omega)
  exact fall_warm s f snow left day b d r w h hd' hr' (by omega) s0 s1 r0 (by omega) hm.1 (by omega)
attribute [local go_sem] Oper.semAt_some
set_option maxHeartbeats 1000000 in
theorem after1_in (n l c b : Nat) (s : Way) (x : St) (ok : WayOk s.l s.melt s.soak s.days s.rain x) (J : Nat -> World -> Prop) (Jx : World -> Prop)
  (hJ : ∀ k W, J k W -> W.cell? ⟨c, 0, none⟩ = some (.pointer (some ⟨b, 0, none⟩)) /\ c ≠ b /\ OnWay W b s (stAt s.l s.melt s.soak s.days s.rain x k).f (stAt s.l s.melt s.soak s.days s.rain x k).snow (stAt s.l s.melt s.soak s.days s.rain x k).left)
  (hY : ∀ k W W', k < s.days.length -> J k W -> W.grownBy W' (some b) -> OnWay W' b s (stAt s.l s.melt s.soak s.days s.rain x (k + 1)).f (stAt s.l s.melt s.soak s.days s.rain x (k + 1)).snow (stAt s.l s.melt s.soak s.days s.rain x (k + 1)).left ->
   YieldAt Fence.wide (n - 1) Tryz.prog l #[.int .i64 k, .int .i64 (downOf s.melt (dAtW s.days k) (iAt s.rain k) (stAt s.l s.melt s.soak s.days s.rain x k).snow)] W' fun e W'' => (e = .returned (.bool true) /\ J (k + 1) W'') ∨ (e = .returned (.bool false) /\ Jx W''))
  (W : World) (h0 : J 0 W) :
  CallsIn Fence.wide n Tryz.prog 67 #[.func (.yield l) #[] #[], .pointer (some ⟨c, 0, none⟩)] W fun e W' => (∃ v, e = .returned v) /\ (J s.days.length W' ∨ Jx W') := by
 have HJ := Lib.hid hJ
 have HY := Lib.hid hY
 have HO := Lib.hid ok
 clear hJ hY ok
 obtain ⟨hc0, hcb, hw0⟩ := HJ.out 0 W h0
 have c6 := hw0.blk.at 6 (v := .slice s.D s.days.length s.dp) rfl
 have hm := (HO.out).many
 obtain ⟨m, hmm⟩ : ∃ m, m = s.days.length := ⟨_, rfl⟩
 rw [<- hmm] at c6 hm
 have HM := Lib.hid hmm
 clear hw0 hmm
 refine callsIn_of_wp Tryz.func67 rfl trivial ?_ rfl
 simp only [Tryz.ntmps67, List.size_toArray, List.length_cons, List.length_nil, Nat.reduceAdd, Nat.reduceSub, Array.replicate_succ, Array.replicate_zero, List.push_toArray, List.append_toArray, List.nil_append, List.cons_append]
 gi_wp2
 clear hc0 c6
 gi_loopw [3, 4, 10] (fun _ _ i wr => ∃ k : Nat, k <= m /\ i = .int .i64 k /\ J k wr) (fun _ _ i _ => m - (intOf i).toNat)
 case atStart => exact ⟨0, Nat.zero_le _, rfl, h0⟩
 case round =>
  obtain ⟨k, hk, rfl, hj⟩ := hrel
  obtain ⟨hc1, _, hw1⟩ := HJ.out k _ hj
  by_cases hlt : k < m
  ·have hkd : k < s.days.length := by have := HM.out; omega
   have hok := stAt_ok HO.out k (by omega)
   have hrb := (HO.out).rs k hkd
   have hdb := down_bd ((HO.out).ds k hkd) (HO.out).melt0 (HO.out).melt1 hrb.1 hrb.2 hok.snow0
   have hsb := soaks_bd (HO.out).soak0 (HO.out).soak1 hdb.1
   have hf := fall_any s _ _ _ k b _ hw1 hkd (HO.out).rains ((HO.out).ds k hkd) (HO.out).melt0 (HO.out).melt1 hok.snow0 (by have := hok.snow1; omega) hrb.1 hrb.2
   have HF := Lib.hid hf
   have hp : ∀ W', OnWay W' b s (stAt s.l s.melt s.soak s.days s.rain x k).f (snowOf s.melt (dAtW s.days k) (iAt s.rain k) (stAt s.l s.melt s.soak s.days s.rain x k).snow) (stAt s.l s.melt s.soak s.days s.rain x k).left ->
    Calls Tryz.prog 69 #[.pointer (some ⟨b, 0, none⟩), .int .i64 (downOf s.melt (dAtW s.days k) (iAt s.rain k) (stAt s.l s.melt s.soak s.days s.rain x k).snow)] W' fun e w' => e = .returned (.tuple #[]) /\ W'.grownBy w' (some b) /\ OnWay w' b s (stAt s.l s.melt s.soak s.days s.rain x (k + 1)).f (stAt s.l s.melt s.soak s.days s.rain x (k + 1)).snow (stAt s.l s.melt s.soak s.days s.rain x (k + 1)).left :=
    fun W' hW => pass_any s _ _ _ _ _ b W' hW (HO.out).cells hok.lv (HO.out).few hdb.1 (by omega) hsb.1 (by omega) rfl hsb.2.2.2
   have HP := Lib.hid hp
   have HK := Lib.hid hkd
   have HJK := Lib.hid hj
   clear hf hp hw1 hkd hok hrb hdb hsb hj
   gi_wp2_with fail
   refine ⟨trivial, fun h => (by cases h), (callsIn_wide.2 HF.out).mono ?_⟩
   rintro e w1 ⟨rfl, hg1, hw1⟩
   have hc2 : w1.cell? ⟨c, 0, none⟩ = some (.pointer (some ⟨b, 0, none⟩)) := (World.cell?_of_block (hg1.block c (World.block_lt_of_cell? _ _ hc1) (by simpa using hcb))).trans hc1
   gi_wp2_with fail
   refine ⟨trivial, fun h => (by cases h), (callsIn_wide.2 (HP.out _ hw1)).mono ?_⟩
   rintro e w2 ⟨rfl, hg2, hw2⟩
   clear hc2 hc1
   obtain ⟨fn, tmps, assign, body, hy, hR⟩ := HY.out k wr w2 HK.out HJK.out (grown_trans hg1 hg2) hw2
   clear hw1 hw2 hg1 hg2
   gi_wp2_with fail
   refine ⟨fun h => (by cases h), hR.mono ?_⟩
   clear hy hR
   rintro e w3 (⟨rfl, hj3⟩ | ⟨rfl, hjx⟩)
   ·gi_wp2_with fail
    go_roundw
    case rel => exact ⟨k + 1, by omega, by go_num, hj3⟩
    case measure => simp [intOf]; omega
   ·gi_wp2_with fail
    refine bodyPost_ret (results_none rfl _ _ _) rfl ?_
    exact ⟨⟨_, rfl⟩, .inr hjx⟩
  ·have hkm : k = s.days.length := by have := HM.out; omega
   have HE := Lib.hid (hkm ▸ hj)
   clear hw1 hc1 hj hkm
   gi_wp2_with fail
   go_end0
   exact ⟨⟨_, rfl⟩, .inl HE.out⟩
end

section
open Go.RowKit
theorem splice_way (s : Way) (snow : Int) (levels : List Int) (h : levels.length <= 8) : splice (wayCs s (fun _ => 0) snow 0).toList 11 (levels.map vi) = (wayCs s (iAt levels) snow 0).toList := by
 match levels, h with
 | [], _ => rfl
 | [_], _ => rfl
 | [_, _], _ => rfl
 | [_, _, _], _ => rfl
 | [_, _, _, _], _ => rfl
 | [_, _, _, _, _], _ => rfl
 | [_, _, _, _, _, _], _ => rfl
 | [_, _, _, _, _, _, _], _ => rfl
 | [_, _, _, _, _, _, _, _], _ => rfl
 | _ :: _ :: _ :: _ :: _ :: _ :: _ :: _ :: _ :: _, h => simp at h
def begun (w : World) (s : Way) (e : Ending) (w' : World) : Prop := ∃ b, e = .returned (.pointer (some ⟨b, 0, none⟩)) /\ w.heap.size <= b /\ OnWay w' b s (iAt s.levels) s.tsnow 0 /\ Below w.heap.size w w'
set_option maxRecDepth 100000 in
set_option maxHeartbeats 1000000 in
theorem begin_any (s : Way) (w : World) (h8 : s.levels.length <= 8) (hc : Row cellL 7 w w.heap.size s.A s.l) (hd : Row dayL 3 w w.heap.size s.D s.days) (hl : Row intL 1 w w.heap.size s.L s.levels) (hr : Row intL 1 w w.heap.size s.R s.rain) :
  Calls Tryz.prog 36 #[.agg #[.slice s.A s.l.length s.ap, vi s.slo, vi s.shi, vi s.klo, vi s.khi, vi s.melt], .slice s.D s.days.length s.dp, truthV s.tsnow s.soak s.L s.levels.length s.lp s.R s.rain.length s.rp] w (begun w s) := by
 obtain ⟨l, A, ap, slo, shi, klo, khi, melt, days, D, dp, tsnow, soak, levels, L, lp, rain, R, rp⟩ := s
 dsimp only at h8 hc hd hl hr ⊢
 go_enter Tryz.func36, Tryz.ntmps36
 go_wp2
 refine wp_region_still_tail 6 (by kernel_rfl) (by kernel_rfl) ?_
 simp only [List.take_succ_cons, List.take_zero, List.drop_succ_cons, List.drop_zero]
 change wpStill Tryz.prog _ (World.drew _) _ _ _
 repeat still_step
 refine wpStill_nil ?_
 change wpList _ _ _ _ _ (World.drew _)
 have hB : Below w.heap.size w (((w.alloc (.cells #[.slice A l.length ap, vi slo, vi shi, vi klo, vi khi, vi melt] 54)).alloc (.cells #[vi tsnow, vi soak, .slice L levels.length lp, .slice R rain.length rp] 64)).alloc
   (.cells (wayCs ⟨l, A, ap, slo, shi, klo, khi, melt, days, D, dp, tsnow, soak, levels, L, lp, rain, R, rp⟩ (fun _ => 0) tsnow 0) 124)).drew := ((((Below.refl _ _).alloc (Nat.le_refl _) _).alloc (by simp) _).alloc (by simp; omega) _).drew
 have hl2 := hl.below hB
 have hw : (((w.alloc (.cells #[.slice A l.length ap, vi slo, vi shi, vi klo, vi khi, vi melt] 54)).alloc (.cells #[vi tsnow, vi soak, .slice L levels.length lp, .slice R rain.length rp] 64)).alloc
   (.cells (wayCs ⟨l, A, ap, slo, shi, klo, khi, melt, days, D, dp, tsnow, soak, levels, L, lp, rain, R, rp⟩ (fun _ => 0) tsnow 0) 124)).drew.heap[w.heap.size + 1 + 1]? = some (.cells (wayCs ⟨l, A, ap, slo, shi, klo, khi, melt, days, D, dp, tsnow, soak, levels, L, lp, rain, R, rp⟩ (fun _ => 0) tsnow 0).toList.toArray 124 (0, 0)) := by
  have := Whole.made ((w.alloc (.cells #[.slice A l.length ap, vi slo, vi shi, vi klo, vi khi, vi melt] 54)).alloc (.cells #[vi tsnow, vi soak, .slice L levels.length lp, .slice R rain.length rp] 64)) 124 (wayCs ⟨l, A, ap, slo, shi, klo, khi, melt, days, D, dp, tsnow, soak, levels, L, lp, rain, R, rp⟩ (fun _ => 0) tsnow 0)
  rw [World.size_alloc, World.size_alloc] at this
  exact this
 refine wpList_copy_splice rfl (.tmp 18) (.tmp 20) 60 60 rfl 3 Tryz.underlying60 (by kernel_rfl) (some ⟨w.heap.size + 1 + 1, 11, none⟩) L 8 8 levels.length lp rfl rfl (w.heap.size + 1 + 1) 11 _ 124 hw (levels.map vi) (by simp only [List.length_map]; exact (Nat.min_eq_left h8).symm) ?_ (by simp [wayCs]; omega) (by simp [Value.oneCell']) w.heap.size w hB (by omega) ?_
 ·intro h0
  refine ⟨rfl, ?_⟩
  obtain ⟨b, off, e, _, hcell⟩ := hl2 (by intro e; simp [e] at h0)
  refine ⟨_, e, fun j v hv => ?_⟩
  rw [List.getElem?_map] at hv
  obtain ⟨n, hn, rfl⟩ := Option.map_eq_some_iff.1 hv
  have := hcell j n hn 0 _ rfl
  rw [add_row]
  simp only [Nat.mul_one, Nat.add_zero] at this
  exact this
 ·intro w' hH hB'
  rw [splice_way _ _ _ h8] at hH
  have HE : Hid (begun w ⟨l, A, ap, slo, shi, klo, khi, melt, days, D, dp, tsnow, soak, levels, L, lp, rain, R, rp⟩ (.returned (.pointer (some ⟨w.heap.size + 1 + 1, 0, none⟩))) w') :=
   ⟨_, rfl, by omega, ⟨by have := hH.out; simpa [Whole] using this, (hc.below hB').more (by omega), (hd.below hB').more (by omega), (hl.below hB').more (by omega), (hr.below hB').more (by omega)⟩, hB'⟩
  clear hH hB' hw hl2 hB hc hd hl hr
  go_wp2
  go_ret
  exact HE.out
set_option maxHeartbeats 400000 in
theorem after_any (b : Nat) (w : World) :
  Calls Tryz.prog 44 #[.pointer (some ⟨b, 0, none⟩)] w fun e w' => e = .returned (.func (.func 67) #[] #[.pointer (some ⟨w.heap.size, 0, none⟩)]) /\ w.alloc (.cells #[.pointer (some ⟨b, 0, none⟩)] 103) = w' := by
 go_enter Tryz.func44, Tryz.ntmps44
 go_wp2
 go_ret
 exact ⟨rfl, rfl⟩
def endFW (hi : Bool) : Nat := if hi then 61 else 61
def endOfW (hi : Bool) (_a b : Int) : Int := if hi then b else b
abbrev choiceVW (hi : Bool) : Value := .agg #[.func (.func (endFW hi)) #[] #[]]
set_option maxHeartbeats 400000 in
theorem most_anyW (w : World) : Calls Tryz.prog 37 #[] w fun e w' => e = .returned (choiceVW true) /\ Below w.heap.size w w' := by
 go_enter Tryz.func37, Tryz.ntmps37
 go_wp2
 exact bodyPost_ret (v := choiceVW true) (by simp [results, Tryz.results37, go_sem, endFW]) rfl ⟨rfl, (Below.refl _ _).alloc (Nat.le_refl _) _⟩
structure TruthMidW (w : World) (fn : Nat) (a b : Int) (cs : Array Value) (tb : Nat) (lv rn : Value) (W : World) : Prop where
 b0 : Whole W w.heap.size 107 #[.func (.func fn) #[] #[]]
 b1 : Whole W (w.heap.size + 1) 54 cs
 b2 : Whole W (w.heap.size + 1 + 1) 64 #[.int .i64 0, .int .i64 0, .slice none 0 0, .slice none 0 0]
 bt : Whole W tb 64 #[vi a, vi b, lv, rn]
 far : w.heap.size + 1 + 1 < tb
 below : Below w.heap.size w W
theorem Tryz.info3 : (Tryz.prog.info? 3).map (fun i => (i.zero, i.size, i.bytes)) = some (some (.int .i64 0), 1, 8) := by kernel_rfl
theorem TruthMidW.cell {w : World} {fn : Nat} {a b : Int} {cs : Array Value} {tb : Nat} {lv rn : Value} {W : World} (h : TruthMidW w fn a b cs tb lv rn W) (o : Obj) : TruthMidW w fn a b cs tb lv rn (W.alloc o) :=
 ⟨h.b0.alloc _, h.b1.alloc _, h.b2.alloc _, h.bt.alloc _, h.far, h.below.alloc h.below.size _⟩
theorem TruthMidW.later {w : World} {fn : Nat} {a b : Int} {cs : Array Value} {tb : Nat} {lv rn : Value} {W W' : World} (h : TruthMidW w fn a b cs tb lv rn W) (hb : Below W.heap.size W W') : TruthMidW w fn a b cs tb lv rn W' :=
 ⟨h.b0.below hb h.b0.lt, h.b1.below hb h.b1.lt, h.b2.below hb h.b2.lt, h.bt.below hb h.bt.lt, h.far, below_next h.below hb⟩
theorem TruthMidW.grown {w : World} {fn : Nat} {a b : Int} {cs : Array Value} {tb : Nat} {lv rn : Value} {W W' : World} {v : Value} {n : Nat} {xs : List Value} (h : TruthMidW w fn a b cs tb lv rn W) (ho : W.ownsRow w.heap.size 3 1 v n xs) (hg : W.grownBy W' v.ownBlock) : TruthMidW w fn a b cs tb lv rn W' :=
 ⟨h.b0.grown hg (own_ne ho h.b0 (by decide)).symm, h.b1.grown hg (own_ne ho h.b1 (by decide)).symm, h.b2.grown hg (own_ne ho h.b2 (by decide)).symm, h.bt.grown hg (own_ne ho h.bt (by decide)).symm, h.far,
  h.below.grown hg h.below.size (own_ge ho)⟩
theorem TruthMidW.levels {w : World} {fn : Nat} {a b : Int} {cs : Array Value} {tb : Nat} {lv rn : Value} {W : World} (h : TruthMidW w fn a b cs tb lv rn W) (u : Value) : TruthMidW w fn a b cs tb u rn (W.setCell ⟨tb, 2, none⟩ u) := by
 have hf := h.far
 exact ⟨h.b0.far (by show w.heap.size ≠ tb; omega) _, h.b1.far (by show w.heap.size + 1 ≠ tb; omega) _, h.b2.far (by show w.heap.size + 1 + 1 ≠ tb; omega) _, h.bt.set 2 u, h.far, h.below.setCell (p := ⟨tb, 2, none⟩) (by show _ <= tb; omega) _⟩
theorem TruthMidW.rains {w : World} {fn : Nat} {a b : Int} {cs : Array Value} {tb : Nat} {lv rn : Value} {W : World} (h : TruthMidW w fn a b cs tb lv rn W) (u : Value) : TruthMidW w fn a b cs tb lv u (W.setCell ⟨tb, 3, none⟩ u) := by
 have hf := h.far
 exact ⟨h.b0.far (by show w.heap.size ≠ tb; omega) _, h.b1.far (by show w.heap.size + 1 ≠ tb; omega) _, h.b2.far (by show w.heap.size + 1 + 1 ≠ tb; omega) _, h.bt.set 3 u, h.far, h.below.setCell (p := ⟨tb, 3, none⟩) (by show _ <= tb; omega) _⟩
structure TruthPreW (w : World) (fn : Nat) (cs : Array Value) (W : World) : Prop where
 b0 : Whole W w.heap.size 107 #[.func (.func fn) #[] #[]]
 b1 : Whole W (w.heap.size + 1) 54 cs
 b2 : Whole W (w.heap.size + 1 + 1) 64 #[.int .i64 0, .int .i64 0, .slice none 0 0, .slice none 0 0]
 below : Below w.heap.size w W
theorem TruthPreW.made (w : World) (fn : Nat) (cs : Array Value) : TruthPreW w fn cs (((w.alloc (.cells #[.func (.func fn) #[] #[]] 107)).alloc (.cells cs 54)).alloc (.cells #[.int .i64 0, .int .i64 0, .slice none 0 0, .slice none 0 0] 64)) := by
 have h1 := (Whole.made w 107 #[.func (.func fn) #[] #[]]).alloc (.cells cs 54) |>.alloc (.cells #[.int .i64 0, .int .i64 0, .slice none 0 0, .slice none 0 0] 64)
 have h2 := (Whole.made (w.alloc (.cells #[.func (.func fn) #[] #[]] 107)) 54 cs).alloc (.cells #[.int .i64 0, .int .i64 0, .slice none 0 0, .slice none 0 0] 64)
 have h3 := Whole.made ((w.alloc (.cells #[.func (.func fn) #[] #[]] 107)).alloc (.cells cs 54)) 64 #[.int .i64 0, .int .i64 0, .slice none 0 0, .slice none 0 0]
 rw [World.size_alloc] at h2
 rw [World.size_alloc, World.size_alloc] at h3
 exact ⟨h1, h2, h3, (((Below.refl _ _).alloc (Nat.le_refl _) _).alloc (by simp) _).alloc (by simp; omega) _⟩
theorem TruthPreW.mid {w : World} {fn : Nat} {cs : Array Value} {wv W : World} {a b : Int} {tb : Nat} {lv rn : Value} (h : TruthPreW w fn cs wv) (hb : Below wv.heap.size wv W) (ht : Whole W tb 64 #[vi a, vi b, lv, rn]) (hf : wv.heap.size <= tb) : TruthMidW w fn a b cs tb lv rn W :=
 ⟨h.b0.below hb h.b0.lt, h.b1.below hb h.b1.lt, h.b2.below hb h.b2.lt, ht, Nat.lt_of_lt_of_le h.b2.lt hf, below_next h.below hb⟩
def ended (w : World) (hi : Bool) (g : Gnd) (days : List Day) (e : Ending) (w' : World) : Prop :=
 ∃ L lp R rp, e = .returned (truthV (endOfW hi g.slo g.shi) (endOfW hi g.klo g.khi) L g.cells.length lp R days.length rp) /\ Row intL 1 w' w'.heap.size L (g.cells.map fun c => endOfW hi c.lo c.hi) /\ Row intL 1 w' w'.heap.size R (days.map fun d => endOfW hi d.lo d.hi) /\ Below w.heap.size w w' /\ (∀ a, L = some a -> w.heap.size <= a.block) /\ (∀ a, R = some a -> w.heap.size <= a.block)
end

section
open Go.RowKit
set_option maxRecDepth 100000 in
set_option maxHeartbeats 2000000 in
theorem truth_hi (g : Gnd) (A : Option Addr) (ap : Nat) (days : List Day) (D : Option Addr) (dp : Nat) (w : World) (hn : g.cells.length <= 1000) (hm : days.length <= 1000) (hc : Row cellL 7 w w.heap.size A g.cells) (hd : Row dayL 3 w w.heap.size D days) :
  Calls Tryz.prog 38 #[.agg #[.func (.func 61) #[] #[]], gndV A ap g, .slice D days.length dp] w (ended w true g days) := by
 obtain ⟨l, slo, shi, klo, khi, melt⟩ := g
 unfold gndV
 dsimp only at hn hc ⊢
 have HC := Lib.hid hc
 have HD := Lib.hid hd
 clear hc hd
 obtain ⟨n, hnl⟩ : ∃ n, n = l.length := ⟨_, rfl⟩
 obtain ⟨m, hml⟩ : ∃ m, m = days.length := ⟨_, rfl⟩
 rw [<- hnl] at hn ⊢
 rw [<- hml] at hm ⊢
 have HN := Lib.hid hnl
 have HM := Lib.hid hml
 clear hnl hml
 obtain ⟨i0, hi0, hz0, hz1, hz2⟩ := info_parts Tryz.info3
 have HI := Lib.hid (And.intro hi0 (And.intro hz0 (And.intro hz1 hz2)))
 clear hi0 hz0 hz1 hz2
 go_enter Tryz.func38, Tryz.ntmps38
 go_wp2
 go_upto_region 1 with fail
 refine gen_world (TruthPreW w 61 #[.slice A n ap, vi slo, vi shi, vi klo, vi khi, vi melt]) (TruthPreW.made _ _ _) ?_
 intro wv hp
 have e0 := hp.b0.at 0 (v := .func (.func 61) #[] #[]) rfl
 have e1 := hp.b1.at 1 (v := vi slo) rfl
 have e2 := hp.b1.at 2 (v := vi shi) rfl
 have e3 := hp.b1.at 3 (v := vi klo) rfl
 have e4 := hp.b1.at 4 (v := vi khi) rfl
 have hlt := hp.b2.lt
 have HP := Lib.hid hp
 clear hp
 go_cut [7] (fun p W => ∃ tb, p = .pointer (some ⟨tb, 0, none⟩) /\ TruthMidW w 61 shi khi #[.slice A n ap, vi slo, vi shi, vi klo, vi khi, vi melt] tb (.slice none 0 0) (.slice none 0 0) W)
 case first =>
  refine wp_words (by kernel_rfl) (region_told 12 (by kernel_rfl) (by kernel_rfl) (fun W => Below wv.heap.size wv W) newer (pickD [vIs (.pointer (some ⟨w.heap.size, 0, none⟩)), vIs (.func (.func 61) #[] #[]), vIs (.pointer (some ⟨w.heap.size + 1, 1, none⟩)), vIs (.agg #[vi slo, vi shi]), vIs (vi shi), vIs (.pointer (some ⟨w.heap.size, 0, none⟩)), vIs (.func (.func 61) #[] #[]), vIs (.pointer (some ⟨w.heap.size + 1, 3, none⟩)), vIs (.agg #[vi klo, vi khi]), vIs (vi khi), vIs (.agg #[vi shi, vi khi, .slice none 0 0, .slice none 0 0]), vNew wv.heap.size 64 #[.int .i64 0, .int .i64 0, .slice none 0 0, .slice none 0 0]]) (fun h k => newer_trans h k) (pickD_stable _ ⟨vIs_st, vIs_st, vIs_st, vIs_st, vIs_st, vIs_st, vIs_st, vIs_st, vIs_st, vIs_st, vIs_st, vNew_st, trivial⟩) (Below.refl _ wv).drew (Below.refl _ _) ?_ ?_)
  ·refine ⟨?_, ?_, ?_, ?_, ?_, ?_, ?_, ?_, ?_, ?_, ?_, ?_, trivial⟩
   ·intro a W hG hR hO hp; have h3 := hO.slot 3 (by kernel_rfl); refine wp_yields (v := .pointer (some ⟨w.heap.size, 0, none⟩)) ?_ ⟨_, rfl, rfl, Below.refl _ _, hG⟩; simp [slotOf] at h3; simp [execOp, go_sem, h3]
   ·intro a W hG hR hO hp; have h12 : slotOf a 12 = .pointer (some ⟨w.heap.size, 0, none⟩) := hp.1; have c0 := keep_cell e0 hG; refine wp_yields (v := .func (.func 61) #[] #[]) ?_ ⟨_, rfl, rfl, Below.refl _ _, hG⟩; simp [slotOf] at h12; simp [execOp, go_sem, h12, c0]
   ·intro a W hG hR hO hp; have h4 := hO.slot 4 (by kernel_rfl); refine wp_yields (v := .pointer (some ⟨w.heap.size + 1, 1, none⟩)) ?_ ⟨_, rfl, rfl, Below.refl _ _, hG⟩; simp [slotOf] at h4; simp [execOp, go_sem, h4]
   ·intro a W hG hR hO hp; have h14 : slotOf a 14 = .pointer (some ⟨w.heap.size + 1, 1, none⟩) := hp.1; have c0 := keep_cell e1 hG; have c1 := keep_cell e2 hG; refine wp_yields (v := .agg #[vi slo, vi shi]) ?_ ⟨_, rfl, rfl, Below.refl _ _, hG⟩; simp [slotOf] at h14; simp [execOp, go_sem, h14, c0, c1]
   ·intro a W hG hR hO hp
    have h13 : slotOf a 13 = .func (.func 61) #[] #[] := hp.1
    have h15 : slotOf a 15 = .agg #[vi slo, vi shi] := hp.2.1
    refine wp_enters (f := 61) (args := #[.agg #[vi slo, vi shi]]) ?_ ((high_anyW _ _ _).mono ?_)
    ·simp [slotOf] at h13 h15
     simp [execOp, go_sem, h13, h15]
    ·rintro e w' ⟨rfl, hb⟩
     exact ⟨_, rfl, _, rfl, rfl, hb, below_next hG hb⟩
   ·intro a W hG hR hO hp; have h3 := hO.slot 3 (by kernel_rfl); refine wp_yields (v := .pointer (some ⟨w.heap.size, 0, none⟩)) ?_ ⟨_, rfl, rfl, Below.refl _ _, hG⟩; simp [slotOf] at h3; simp [execOp, go_sem, h3]
   ·intro a W hG hR hO hp; have h17 : slotOf a 17 = .pointer (some ⟨w.heap.size, 0, none⟩) := hp.1; have c0 := keep_cell e0 hG; refine wp_yields (v := .func (.func 61) #[] #[]) ?_ ⟨_, rfl, rfl, Below.refl _ _, hG⟩; simp [slotOf] at h17; simp [execOp, go_sem, h17, c0]
   ·intro a W hG hR hO hp; have h4 := hO.slot 4 (by kernel_rfl); refine wp_yields (v := .pointer (some ⟨w.heap.size + 1, 3, none⟩)) ?_ ⟨_, rfl, rfl, Below.refl _ _, hG⟩; simp [slotOf] at h4; simp [execOp, go_sem, h4]
   ·intro a W hG hR hO hp; have h19 : slotOf a 19 = .pointer (some ⟨w.heap.size + 1, 3, none⟩) := hp.1; have c0 := keep_cell e3 hG; have c1 := keep_cell e4 hG; refine wp_yields (v := .agg #[vi klo, vi khi]) ?_ ⟨_, rfl, rfl, Below.refl _ _, hG⟩; simp [slotOf] at h19; simp [execOp, go_sem, h19, c0, c1]
   ·intro a W hG hR hO hp
    have h18 : slotOf a 18 = .func (.func 61) #[] #[] := hp.1
    have h20 : slotOf a 20 = .agg #[vi klo, vi khi] := hp.2.1
    refine wp_enters (f := 61) (args := #[.agg #[vi klo, vi khi]]) ?_ ((high_anyW _ _ _).mono ?_)
    ·simp [slotOf] at h18 h20
     simp [execOp, go_sem, h18, h20]
    ·rintro e w' ⟨rfl, hb⟩
     exact ⟨_, rfl, _, rfl, rfl, hb, below_next hG hb⟩
   ·intro a W hG hR hO hp; have h16 : slotOf a 16 = vi shi := hp.1; have h21 : slotOf a 21 = vi khi := hp.2.1; refine wp_yields (v := .agg #[vi shi, vi khi, .slice none 0 0, .slice none 0 0]) ?_ ⟨_, rfl, rfl, Below.refl _ _, hG⟩; simp [slotOf] at h16 h21; simp [execOp, go_sem, h16, h21]
   ·intro a W hG hR hO hp; refine wp_makes (v := .pointer (some ⟨W.heap.size, 0, none⟩)) (W' := W.alloc (.cells #[.int .i64 0, .int .i64 0, .slice none 0 0, .slice none 0 0] 64)) ?_ ⟨_, rfl, ⟨_, rfl, hG.size, Whole.made _ _ _⟩, (Below.refl _ _).alloc (Nat.le_refl _) _, hG.alloc hG.size _⟩; skip; simp [execOp, go_sem]
  ·intro W hG hR
   rintro _ rfl _ rfl _ rfl _ rfl _ rfl _ rfl _ rfl _ rfl _ rfl _ rfl _ rfl _ ⟨nb, rfl, hnb, hW⟩
   change wpList _ _ _ _ _ _
   simp only [Act.put, List.setIfInBounds_toArray, List.set_cons_zero, List.set_cons_succ, List.drop_succ_cons, List.drop_zero]
   have n0 := hW.at 0 rfl
   have n1 := hW.at 1 rfl
   have n2 := hW.at 2 rfl
   have n3 := hW.at 3 rfl
   have f0 := hW.free 0
   have f1 := hW.free 1
   have f2 := hW.free 2
   have f3 := hW.free 3
   have HM2 : Hid (TruthMidW w 61 shi khi #[.slice A n ap, vi slo, vi shi, vi klo, vi khi, vi melt] nb (.slice none 0 0) (.slice none 0 0) ((((W.setCell ⟨nb, 0, none⟩ (vi shi)).setCell ⟨nb, 1, none⟩ (vi khi)).setCell ⟨nb, 2, none⟩ (.slice none 0 0)).setCell ⟨nb, 3, none⟩ (.slice none 0 0))) :=
    HP.out.mid ((((hG.setCell (p := ⟨nb, 0, none⟩) hnb _).setCell (p := ⟨nb, 1, none⟩) hnb _).setCell (p := ⟨nb, 2, none⟩) hnb _).setCell (p := ⟨nb, 3, none⟩) hnb _) ((((hW.set 0 _).set 1 _).set 2 _).set 3 _) hnb
   clear hW hG hR e0 e1 e2 e3 e4
   go_wp2_with fail
   go_meet
   exact ⟨_, rfl, HM2.out⟩
 case rest =>
  obtain ⟨tb, rfl, hmid⟩ := hcut
  clear e0 e1 e2 e3 e4 hlt HP
  have c0 := hmid.b1.at 0 (v := .slice A n ap) rfl
  obtain ⟨cs, hcs⟩ : ∃ cs : Array Value, cs = #[.slice A n ap, vi slo, vi shi, vi klo, vi khi, vi melt] := ⟨_, rfl⟩
  rw [<- hcs] at hmid
  clear hcs
  have HT := Lib.hid hmid
  clear hmid
  go_wp2
  clear c0
  go_loopw [9, 26] (fun _ i wr => ∃ (k : Nat) (v : Value), k <= n /\ i = .int .i64 k /\ TruthMidW w 61 shi khi cs tb v (.slice none 0 0) wr /\ wr.ownsRow w.heap.size 3 1 v k ((l.take k).flatMap fun c => intL c.hi)) (fun _ i _ => n - (intOf i).toNat)
  case atStart => exact ⟨0, _, Nat.zero_le _, rfl, HT.out, by simp, .inl ⟨rfl, rfl⟩⟩
  case round =>
   obtain ⟨k, v, hk, rfl, hmid, hown⟩ := hrel
   clear HT
   by_cases hlt : k < n
   ·obtain ⟨c, hck⟩ := get_of_lt (l := l) (k := k) (by have := HN.out; omega)
    obtain ⟨b2, off, eA, _, h0, h1, h2, h3, h4, h5, h6⟩ := row7 ((HC.out).below hmid.below) hck
    subst eA
    have HK := Lib.hid hck
    obtain ⟨cb, hcb⟩ : ∃ cb, cb = wr.heap.size := ⟨_, rfl⟩
    have H5 : Hid (TruthMidW w 61 shi khi cs tb v (.slice none 0 0) (wr.alloc (.cells #[vi c.lo, vi c.hi, vi c.cap, vi c.keep, vi c.pass, vi c.tgt, vi c.pump] 86)) /\ (wr.alloc (.cells #[vi c.lo, vi c.hi, vi c.cap, vi c.keep, vi c.pass, vi c.tgt, vi c.pump] 86)).ownsRow w.heap.size 3 1 v k ((l.take k).flatMap fun c => intL c.hi) /\ Whole (wr.alloc (.cells #[vi c.lo, vi c.hi, vi c.cap, vi c.keep, vi c.pass, vi c.tgt, vi c.pump] 86)) cb 86 #[vi c.lo, vi c.hi, vi c.cap, vi c.keep, vi c.pass, vi c.tgt, vi c.pump]) :=
     ⟨hmid.cell _, hown.alloc _, hcb ▸ Whole.made _ _ _⟩
    clear hmid hown hck
    go_upto_region 5 with fail
    rw [<- hcb]
    refine gen_world (fun W => TruthMidW w 61 shi khi cs tb v (.slice none 0 0) W /\ W.ownsRow w.heap.size 3 1 v k ((l.take k).flatMap fun c => intL c.hi) /\ Whole W cb 86 #[vi c.lo, vi c.hi, vi c.cap, vi c.keep, vi c.pass, vi c.tgt, vi c.pump]) H5.out ?_
    clear H5 hcb h0 h1 h2 h3 h4 h5 h6
    rintro w5 ⟨hm5, ho5, hc5⟩
    have g0 := hm5.b0.at 0 (v := .func (.func 61) #[] #[]) rfl
    have g1 := hm5.bt.at 2 (v := v) rfl
    have g2 := hc5.at 0 rfl
    have g3 := hc5.at 1 rfl
    obtain ⟨vA, vc, rfl⟩ := own_form ho5
    have H5 := Lib.hid (And.intro hm5 ho5)
    clear hm5 ho5 hc5
    refine wp_words (by kernel_rfl) (region_told 8 (by kernel_rfl) (by kernel_rfl) (fun W => Below w5.heap.size w5 W) newer (pickD [vIs (.pointer (some ⟨tb, 2, none⟩)), vIs (.slice vA k vc), vIs (.pointer (some ⟨w.heap.size, 0, none⟩)), vIs (.func (.func 61) #[] #[]), vIs (.pointer (some ⟨cb, 0, none⟩)), vIs (.agg #[vi c.lo, vi c.hi]), vIs (vi c.hi), vOne w5.heap.size 3 #[vi c.hi]]) (fun h k => newer_trans h k) (pickD_stable _ ⟨vIs_st, vIs_st, vIs_st, vIs_st, vIs_st, vIs_st, vIs_st, vOne_st, trivial⟩) (Below.refl _ w5).drew (Below.refl _ _) ?_ ?_)
    ·refine ⟨?_, ?_, ?_, ?_, ?_, ?_, ?_, ?_, trivial⟩
     ·intro a W hG hR hO hp; have h7 := hO.slot 7 (by kernel_rfl); refine wp_yields (v := .pointer (some ⟨tb, 2, none⟩)) ?_ ⟨_, rfl, rfl, Below.refl _ _, hG⟩; simp [slotOf] at h7; simp [execOp, go_sem, h7]
     ·intro a W hG hR hO hp; have h30 : slotOf a 30 = .pointer (some ⟨tb, 2, none⟩) := hp.1; have c0 := keep_cell g1 hG; refine wp_yields (v := .slice vA k vc) ?_ ⟨_, rfl, rfl, Below.refl _ _, hG⟩; simp [slotOf] at h30; simp [execOp, go_sem, h30, c0]
     ·intro a W hG hR hO hp; have h3 := hO.slot 3 (by kernel_rfl); refine wp_yields (v := .pointer (some ⟨w.heap.size, 0, none⟩)) ?_ ⟨_, rfl, rfl, Below.refl _ _, hG⟩; simp [slotOf] at h3; simp [execOp, go_sem, h3]
     ·intro a W hG hR hO hp; have h32 : slotOf a 32 = .pointer (some ⟨w.heap.size, 0, none⟩) := hp.1; have c0 := keep_cell g0 hG; refine wp_yields (v := .func (.func 61) #[] #[]) ?_ ⟨_, rfl, rfl, Below.refl _ _, hG⟩; simp [slotOf] at h32; simp [execOp, go_sem, h32, c0]
     ·intro a W hG hR hO hp; have h9 := hO.slot 9 (by kernel_rfl); refine wp_yields (v := .pointer (some ⟨cb, 0, none⟩)) ?_ ⟨_, rfl, rfl, Below.refl _ _, hG⟩; simp [slotOf] at h9; simp [execOp, go_sem, h9]
     ·intro a W hG hR hO hp; have h34 : slotOf a 34 = .pointer (some ⟨cb, 0, none⟩) := hp.1; have c0 := keep_cell g2 hG; have c1 := keep_cell g3 hG; refine wp_yields (v := .agg #[vi c.lo, vi c.hi]) ?_ ⟨_, rfl, rfl, Below.refl _ _, hG⟩; simp [slotOf] at h34; simp [execOp, go_sem, h34, c0, c1]
     ·intro a W hG hR hO hp
      have h33 : slotOf a 33 = .func (.func 61) #[] #[] := hp.1
      have h35 : slotOf a 35 = .agg #[vi c.lo, vi c.hi] := hp.2.1
      refine wp_enters (f := 61) (args := #[.agg #[vi c.lo, vi c.hi]]) ?_ ((high_anyW _ _ _).mono ?_)
      ·simp [slotOf] at h33 h35
       simp [execOp, go_sem, h33, h35]
      ·rintro e w' ⟨rfl, hb⟩
       exact ⟨_, rfl, _, rfl, rfl, hb, below_next hG hb⟩
     ·intro a W hG hR hO hp; have h36 : slotOf a 36 = vi c.hi := hp.1; refine wp_makes (v := .slice (some ⟨W.heap.size, 0, none⟩) 1 1) (W' := W.alloc (.cells #[vi c.hi] 3)) ?_ ⟨_, rfl, ⟨_, rfl, hG.size, Whole.made _ _ _⟩, (Below.refl _ _).alloc (Nat.le_refl _) _, hG.alloc hG.size _⟩; simp [slotOf] at h36; simp [execOp, go_sem, h36]
    ·intro W hG hR
     rintro _ rfl _ rfl _ rfl _ rfl _ rfl _ rfl _ rfl _ ⟨nb, rfl, hnb, hW⟩
     change wpList _ _ _ _ _ _
     simp only [Act.put, List.setIfInBounds_toArray, List.set_cons_zero, List.set_cons_succ, List.drop_succ_cons, List.drop_zero]
     obtain ⟨hm5, ho5⟩ := H5.out
     obtain ⟨hi0, hz0, hz1, hz2⟩ := HI.out
     have hm6 := hm5.later hG
     have ho6 := own_below ho5 hG
     refine wpList_append_lies _ rfl (.tmp 31) (.tmp 37) 60 rfl w.heap.size 3 i0 (.int .i64 0) 1 8 Tryz.underlying60 hi0 hz0 hz1 hz2 rfl (by omega) _ k _ rfl ho6 ⟨nb, 0, none⟩ 1 1 [vi c.hi] rfl rfl (World.news_of_block hW) (by simp [Value.oneCell']) (by omega) (by unfold maxLen; omega) (by omega) hm6.below.size W.heap.size rfl ?_
     intro gg cap w1 hown1 hgrow hat hlt1
     have hm7 := hm6.grown ho6 hgrow
     have ct := hm7.bt.at 2 rfl
     have ft := hm7.bt.free 2
     have HR := Lib.hid (And.intro (hm7.levels (.slice (some ⟨gg, 0, none⟩) (k + 1) cap)) (own_set (i := 2) hown1 (own_ne hown1 hm7.bt (by decide)) (.slice (some ⟨gg, 0, none⟩) (k + 1) cap)))
     clear hm7 hm6 ho6 hm5 ho5 hown1 hgrow hat hlt1 hW hG hR hi0 hz0 hz1 hz2 H5 g0 g1 g2 g3
     go_wp2_with fail
     go_roundw
     case rel => exact ⟨k + 1, _, by omega, by go_num, HR.out.1, by rw [take_flat (fun c : Cell => intL c.hi) l k c HK.out]; exact HR.out.2⟩
     case measure => simp [intOf]; omega
   ·have hkn : k = n := by omega
    subst hkn
    have HT := Lib.hid (And.intro hmid hown)
    clear hmid hown
    go_wp2_with fail
    obtain ⟨w0, hw0⟩ : ∃ w0, w0 = wr := ⟨_, rfl⟩
    go_loopw [11, 43] (fun _ i wr2 => ∃ (j : Nat) (u : Value), j <= m /\ i = .int .i64 j /\ TruthMidW w 61 shi khi cs tb v u wr2 /\ wr2.ownsRow w0.heap.size 3 1 u j ((days.take j).flatMap fun c => intL c.hi) /\ w0.grownBy wr2 (some tb)) (fun _ i _ => m - (intOf i).toNat)
    case atStart => exact ⟨0, _, Nat.zero_le _, rfl, HT.out.1, ⟨by simp, .inl ⟨rfl, rfl⟩⟩, hw0 ▸ grown_refl _ _⟩
    case round =>
     obtain ⟨j, u, hj, rfl, hmid, hown, hgr⟩ := hrel
     by_cases hjm : j < m
     ·obtain ⟨c, hck⟩ := get_of_lt (l := days) (k := j) (by have := HM.out; omega)
      obtain ⟨b2, off, eA, _, h0, h1, h2⟩ := row3W ((HD.out).below hmid.below) hck
      subst eA
      have HK := Lib.hid hck
      obtain ⟨cb, hcb⟩ : ∃ cb, cb = wr.heap.size := ⟨_, rfl⟩
      have H5 : Hid (TruthMidW w 61 shi khi cs tb v u (wr.alloc (.cells #[vi c.lo, vi c.hi, vi c.warm] 88)) /\ (wr.alloc (.cells #[vi c.lo, vi c.hi, vi c.warm] 88)).ownsRow w0.heap.size 3 1 u j ((days.take j).flatMap fun c => intL c.hi) /\ Whole (wr.alloc (.cells #[vi c.lo, vi c.hi, vi c.warm] 88)) cb 88 #[vi c.lo, vi c.hi, vi c.warm] /\ w0.grownBy (wr.alloc (.cells #[vi c.lo, vi c.hi, vi c.warm] 88)) (some tb)) :=
       ⟨hmid.cell _, hown.alloc _, hcb ▸ Whole.made _ _ _, grown_alloc hgr _⟩
      clear hmid hown hck hgr
      go_upto_region 10 with fail
      rw [<- hcb]
      refine gen_world (fun W => TruthMidW w 61 shi khi cs tb v u W /\ W.ownsRow w0.heap.size 3 1 u j ((days.take j).flatMap fun c => intL c.hi) /\ Whole W cb 88 #[vi c.lo, vi c.hi, vi c.warm] /\ w0.grownBy W (some tb)) H5.out ?_
      clear H5 hcb h0 h1 h2
      rintro w5 ⟨hm5, ho5, hc5, hgr5⟩
      have g0 := hm5.b0.at 0 (v := .func (.func 61) #[] #[]) rfl
      have g1 := hm5.bt.at 3 (v := u) rfl
      have g2 := hc5.at 0 rfl
      have g3 := hc5.at 1 rfl
      obtain ⟨vA, vc, rfl⟩ := own_form ho5
      have H5 := Lib.hid (And.intro hm5 (And.intro ho5 hgr5))
      clear hm5 ho5 hc5 hgr5
      refine wp_words (by kernel_rfl) (region_told 8 (by kernel_rfl) (by kernel_rfl) (fun W => Below w5.heap.size w5 W) newer (pickD [vIs (.pointer (some ⟨tb, 3, none⟩)), vIs (.slice vA j vc), vIs (.pointer (some ⟨w.heap.size, 0, none⟩)), vIs (.func (.func 61) #[] #[]), vIs (.pointer (some ⟨cb, 0, none⟩)), vIs (.agg #[vi c.lo, vi c.hi]), vIs (vi c.hi), vOne w5.heap.size 3 #[vi c.hi]]) (fun h k => newer_trans h k) (pickD_stable _ ⟨vIs_st, vIs_st, vIs_st, vIs_st, vIs_st, vIs_st, vIs_st, vOne_st, trivial⟩) (Below.refl _ w5).drew (Below.refl _ _) ?_ ?_)
      ·refine ⟨?_, ?_, ?_, ?_, ?_, ?_, ?_, ?_, trivial⟩
       ·intro a W hG hR hO hp; have h7 := hO.slot 7 (by kernel_rfl); refine wp_yields (v := .pointer (some ⟨tb, 3, none⟩)) ?_ ⟨_, rfl, rfl, Below.refl _ _, hG⟩; simp [slotOf] at h7; simp [execOp, go_sem, h7]
       ·intro a W hG hR hO hp; have h47 : slotOf a 47 = .pointer (some ⟨tb, 3, none⟩) := hp.1; have c0 := keep_cell g1 hG; refine wp_yields (v := .slice vA j vc) ?_ ⟨_, rfl, rfl, Below.refl _ _, hG⟩; simp [slotOf] at h47; simp [execOp, go_sem, h47, c0]
       ·intro a W hG hR hO hp; have h3 := hO.slot 3 (by kernel_rfl); refine wp_yields (v := .pointer (some ⟨w.heap.size, 0, none⟩)) ?_ ⟨_, rfl, rfl, Below.refl _ _, hG⟩; simp [slotOf] at h3; simp [execOp, go_sem, h3]
       ·intro a W hG hR hO hp; have h49 : slotOf a 49 = .pointer (some ⟨w.heap.size, 0, none⟩) := hp.1; have c0 := keep_cell g0 hG; refine wp_yields (v := .func (.func 61) #[] #[]) ?_ ⟨_, rfl, rfl, Below.refl _ _, hG⟩; simp [slotOf] at h49; simp [execOp, go_sem, h49, c0]
       ·intro a W hG hR hO hp; have h11 := hO.slot 11 (by kernel_rfl); refine wp_yields (v := .pointer (some ⟨cb, 0, none⟩)) ?_ ⟨_, rfl, rfl, Below.refl _ _, hG⟩; simp [slotOf] at h11; simp [execOp, go_sem, h11]
       ·intro a W hG hR hO hp; have h51 : slotOf a 51 = .pointer (some ⟨cb, 0, none⟩) := hp.1; have c0 := keep_cell g2 hG; have c1 := keep_cell g3 hG; refine wp_yields (v := .agg #[vi c.lo, vi c.hi]) ?_ ⟨_, rfl, rfl, Below.refl _ _, hG⟩; simp [slotOf] at h51; simp [execOp, go_sem, h51, c0, c1]
       ·intro a W hG hR hO hp
        have h50 : slotOf a 50 = .func (.func 61) #[] #[] := hp.1
        have h52 : slotOf a 52 = .agg #[vi c.lo, vi c.hi] := hp.2.1
        refine wp_enters (f := 61) (args := #[.agg #[vi c.lo, vi c.hi]]) ?_ ((high_anyW _ _ _).mono ?_)
        ·simp [slotOf] at h50 h52
         simp [execOp, go_sem, h50, h52]
        ·rintro e w' ⟨rfl, hb⟩
         exact ⟨_, rfl, _, rfl, rfl, hb, below_next hG hb⟩
       ·intro a W hG hR hO hp; have h53 : slotOf a 53 = vi c.hi := hp.1; refine wp_makes (v := .slice (some ⟨W.heap.size, 0, none⟩) 1 1) (W' := W.alloc (.cells #[vi c.hi] 3)) ?_ ⟨_, rfl, ⟨_, rfl, hG.size, Whole.made _ _ _⟩, (Below.refl _ _).alloc (Nat.le_refl _) _, hG.alloc hG.size _⟩; simp [slotOf] at h53; simp [execOp, go_sem, h53]
      ·intro W hG hR
       rintro _ rfl _ rfl _ rfl _ rfl _ rfl _ rfl _ rfl _ ⟨nb, rfl, hnb, hW⟩
       change wpList _ _ _ _ _ _
       simp only [Act.put, List.setIfInBounds_toArray, List.set_cons_zero, List.set_cons_succ, List.drop_succ_cons, List.drop_zero]
       obtain ⟨hm5, ho5, hgr5⟩ := H5.out
       obtain ⟨hi0, hz0, hz1, hz2⟩ := HI.out
       have hm6 := hm5.later hG
       have ho6 := own_below ho5 hG
       have hgr6 := grown_below hgr5 hG
       refine wpList_append_lies _ rfl (.tmp 48) (.tmp 54) 60 rfl w0.heap.size 3 i0 (.int .i64 0) 1 8 Tryz.underlying60 hi0 hz0 hz1 hz2 rfl (by omega) _ j _ rfl ho6 ⟨nb, 0, none⟩ 1 1 [vi c.hi] rfl rfl (World.news_of_block hW) (by simp [Value.oneCell']) (by omega) (by unfold maxLen; omega) (by omega) hgr6.size W.heap.size rfl ?_
       intro gg cap w1 hown1 hgrow hat hlt1
       have hm7 := hm6.grown (own_more ho6 (hw0 ▸ HT.out.1.below.size)) hgrow
       have hgr7 := grown_row hgr6 hgrow (own_ge ho6)
       have ct := hm7.bt.at 3 rfl
       have ft := hm7.bt.free 3
       have HR := Lib.hid (And.intro (hm7.rains (.slice (some ⟨gg, 0, none⟩) (j + 1) cap)) (And.intro (own_set (i := 3) hown1 (own_ne hown1 hm7.bt (by decide)) (.slice (some ⟨gg, 0, none⟩) (j + 1) cap)) (grown_set (p := ⟨tb, 3, none⟩) hgr7 (.inl rfl) (.slice (some ⟨gg, 0, none⟩) (j + 1) cap))))
       clear hm7 hm6 ho6 hm5 ho5 hown1 hgrow hat hlt1 hW hG hR hi0 hz0 hz1 hz2 H5 g0 g1 g2 g3 hgr5 hgr6 hgr7
       go_wp2_with fail
       go_roundw
       case rel => exact ⟨j + 1, _, by omega, by go_num, HR.out.1, by rw [take_flat (fun c : Day => intL c.hi) days j c HK.out]; exact HR.out.2.1, HR.out.2.2⟩
       case measure => simp [intOf]; omega
     ·have hjn : j = m := by omega
      subst hjn
      obtain ⟨ht1, ht2⟩ := HT.out
      have hsw : w.heap.size <= w0.heap.size := hw0 ▸ ht1.below.size
      have hlv : wr.ownsRow w.heap.size 3 1 v k ((l.take k).flatMap fun c => intL c.hi) := (hw0 ▸ ht2 : w0.ownsRow w.heap.size 3 1 v k ((l.take k).flatMap fun c => intL c.hi)).kept hgr (.inr (own_ne ht2 ht1.bt (by decide)))
      rw [List.take_of_length_le (by have := HN.out; omega)] at hlv
      rw [List.take_of_length_le (by have := HM.out; omega)] at hown
      obtain ⟨LA, lc, rfl⟩ := own_form hlv
      obtain ⟨RA, rc, rfl⟩ := own_form hown
      have t0 := hmid.bt.at 0 (v := vi shi) rfl
      have t1 := hmid.bt.at 1 (v := vi khi) rfl
      have t2 := hmid.bt.at 2 rfl
      have t3 := hmid.bt.at 3 rfl
      have r0 := hmid.b2.at 0 rfl
      have r1 := hmid.b2.at 1 rfl
      have r2 := hmid.b2.at 2 rfl
      have r3 := hmid.b2.at 3 rfl
      have q0 := hmid.b2.free 0
      have q1 := hmid.b2.free 1
      have q2 := hmid.b2.free 2
      have q3 := hmid.b2.free 3
      have nl := own_ne hlv hmid.b2 (by decide)
      have nr := own_ne hown hmid.b2 (by decide)
      have HE : Hid (ended w true ⟨l, slo, shi, klo, khi, melt⟩ days (.returned (truthV shi khi LA k lc RA j rc)) ((((wr.setCell ⟨w.heap.size + 1 + 1, 0, none⟩ (vi shi)).setCell ⟨w.heap.size + 1 + 1, 1, none⟩ (vi khi)).setCell ⟨w.heap.size + 1 + 1, 2, none⟩ (.slice LA k lc)).setCell ⟨w.heap.size + 1 + 1, 3, none⟩ (.slice RA j rc))) := by
       have ol := own_set (i := 3) (own_set (i := 2) (own_set (i := 1) (own_set (i := 0) hlv nl (vi shi)) nl (vi khi)) nl (.slice LA k lc)) nl (.slice RA j rc)
       have orr := own_set (i := 3) (own_set (i := 2) (own_set (i := 1) (own_set (i := 0) hown nr (vi shi)) nr (vi khi)) nr (.slice LA k lc)) nr (.slice RA j rc)
       have el : (l.flatMap fun c => intL c.hi) = (l.map fun c => endOfW true c.lo c.hi).flatMap intL := by rw [List.flatMap_map]; rfl
       have er : (days.flatMap fun c => intL c.hi) = (days.map fun c => endOfW true c.lo c.hi).flatMap intL := by rw [List.flatMap_map]; rfl
       rw [el] at ol
       rw [er] at orr
       have bb := hmid.below
       refine ⟨LA, lc, RA, rc, ?_, row_of_own (by omega) (fun _ => rfl) ol, row_of_own (by omega) (fun _ => rfl) orr, (((bb.setCell (by dsimp only; omega) _).setCell (by dsimp only; omega) _).setCell (by dsimp only; omega) _).setCell (by dsimp only; omega) _, fun a e => own_ge ol a.block (by subst e; rfl), fun a e => Nat.le_trans hsw (own_ge orr a.block (by subst e; rfl))⟩
       rw [<- HN.out, <- HM.out]
       rfl
      clear hlv hown hmid nl nr hgr ht1 ht2 HT hw0 hsw
      go_wp2_with fail
      exact bodyPost_ret (v := truthV shi khi LA k lc RA j rc) (by simp [results, Tryz.results38, go_sem, r0, r1, r2, r3]) rfl HE.out
end

section
open Go.RowKit Go.Shelf

attribute [local go_sem] Oper.semAt_some
structure FirstAtW (w : World) (b : Nat) (cell : Nat) (level : Int) (out : Int) (r : Loop) (W : World) : Prop where
 loop : W.heap[w.heap.size + 1 + 1 + 1 + 1 + 1 + 1]? = some (.loop r)
 dfr : W.heap[w.heap.size + 1 + 1 + 1 + 1 + 1]? = some (.deferred (some []))
 b0 : Whole W w.heap.size 103 #[.pointer (some ⟨b, 0, none⟩)]
 b1 : Whole W (w.heap.size + 1) 3 #[.int .i64 cell]
 b2 : Whole W (w.heap.size + 1 + 1) 3 #[.int .i64 level]
 b3 : Whole W (w.heap.size + 1 + 1 + 1) 3 #[.int .i64 out]
 b4 : Whole W (w.heap.size + 1 + 1 + 1 + 1) 103 #[.pointer (some ⟨b, 0, none⟩)]
 grown : w.grownBy W (some b)
theorem FirstAtW.start (w : World) (b cell : Nat) (level : Int) (r : Loop) : FirstAtW w b cell level (-1) r (((((((w.alloc (.cells #[.pointer (some ⟨b, 0, none⟩)] 103)).alloc (.cells #[.int .i64 cell] 3)).alloc (.cells #[.int .i64 level] 3)).alloc (.cells #[.int .i64 (-1)] 3)).alloc (.cells #[.pointer (some ⟨b, 0, none⟩)] 103)).alloc (.deferred (some []))).alloc (.loop r)) := by
 refine ⟨?_, ?_, ?_, ?_, ?_, ?_, ?_, ?_⟩
 ·(simp only [heap_if, World.size_alloc]; (repeat rw [if_neg (by omega)]); rfl)
 ·(simp only [heap_if, World.size_alloc]; (repeat rw [if_neg (by omega)]); rfl)
 ·(simp only [Whole, heap_if, World.size_alloc]; (repeat rw [if_neg (by omega)]); rfl)
 ·(simp only [Whole, heap_if, World.size_alloc]; (repeat rw [if_neg (by omega)]); rfl)
 ·(simp only [Whole, heap_if, World.size_alloc]; (repeat rw [if_neg (by omega)]); rfl)
 ·(simp only [Whole, heap_if, World.size_alloc]; (repeat rw [if_neg (by omega)]); rfl)
 ·(simp only [Whole, heap_if, World.size_alloc]; (repeat rw [if_neg (by omega)]); rfl)
 ·exact grown_alloc (grown_alloc (grown_alloc (grown_alloc (grown_alloc (grown_alloc (grown_alloc (grown_refl w _) _) _) _) _) _) _) _
theorem FirstAtW.kept {w : World} {b cell : Nat} {level out : Int} {r : Loop} {W W' : World} (h : FirstAtW w b cell level out r W) (hb : b < w.heap.size) (hg : W.grownBy W' (some b)) : FirstAtW w b cell level out r W' := by
 have hs := (Array.getElem?_eq_some_iff.1 h.loop).1
 exact ⟨(hg.block _ hs (by simp; omega)).trans h.loop, (hg.block _ (by omega) (by simp; omega)).trans h.dfr, h.b0.grown hg (by simp; omega), h.b1.grown hg (by simp; omega), h.b2.grown hg (by simp; omega), h.b3.grown hg (by simp; omega), h.b4.grown hg (by simp; omega), grown_trans h.grown hg⟩
theorem FirstAtW.put {w : World} {b cell : Nat} {level out : Int} {r : Loop} {W : World} (h : FirstAtW w b cell level out r W) (r' : Loop) : FirstAtW w b cell level out r' (W.putObj (w.heap.size + 1 + 1 + 1 + 1 + 1 + 1) (.loop r')) := by
 have hs := (Array.getElem?_eq_some_iff.1 h.loop).1
 exact ⟨World.putObj_heap_same hs, (World.putObj_heap_other (by omega)).trans h.dfr, h.b0.put (by omega) _, h.b1.put (by omega) _, h.b2.put (by omega) _, h.b3.put (by omega) _, h.b4.put (by omega) _, grown_put h.grown (by omega) _⟩
theorem FirstAtW.kept2 {w : World} {b cell : Nat} {level out : Int} {r : Loop} {W W' : World} (h : FirstAtW w b cell level out r W) (hg : Below W.heap.size W W') : FirstAtW w b cell level out r W' := by
 have hs := (Array.getElem?_eq_some_iff.1 h.loop).1
 exact ⟨(hg.block _ hs).trans h.loop, (hg.block _ (by omega)).trans h.dfr, h.b0.below hg h.b0.lt, h.b1.below hg h.b1.lt, h.b2.below hg h.b2.lt, h.b3.below hg h.b3.lt, h.b4.below hg h.b4.lt, grown_below h.grown hg⟩
theorem FirstAtW.found {w : World} {b cell : Nat} {level out : Int} {r : Loop} {W : World} (h : FirstAtW w b cell level out r W) (x : Int) : FirstAtW w b cell level x r (W.setCell ⟨w.heap.size + 1 + 1 + 1, 0, none⟩ (.int .i64 x)) := by
 have hg := grown_set (p := ⟨w.heap.size + 1 + 1 + 1, 0, none⟩) (grown_refl W (some (w.heap.size + 1 + 1 + 1))) (.inl rfl) (.int .i64 x)
 have hs := (Array.getElem?_eq_some_iff.1 h.loop).1
 exact ⟨(hg.block _ hs (by intro e; injection e; omega)).trans h.loop, (hg.block _ (by omega) (by intro e; injection e; omega)).trans h.dfr, h.b0.grown hg (by intro e; injection e; omega), h.b1.grown hg (by intro e; injection e; omega), h.b2.grown hg (by intro e; injection e; omega), h.b3.set 0 _, h.b4.grown hg (by intro e; injection e; omega), grown_set (p := ⟨w.heap.size + 1 + 1 + 1, 0, none⟩) h.grown (.inr (by dsimp only; omega)) _⟩
theorem OnWay.put {W : World} {b : Nat} {s : Way} {f : Nat -> Int} {snow left : Int} (h : OnWay W b s f snow left) {l : Nat} (hl : b < l) (o : Obj) : OnWay (W.putObj l o) b s f snow left :=
 h.below (B := l) ⟨rfl, rfl, rfl, by simp, fun i hi => World.putObj_heap_other (by omega)⟩ hl
set_option maxRecDepth 100000 in
set_option maxHeartbeats 1000000 in
theorem first_any (s : Way) (x : St) (b cell : Nat) (level : Int) (w : World) (ok : WayOk s.l s.melt s.soak s.days s.rain x) (h : OnWay w b s x.f x.snow x.left) (hcell : cell < s.l.length) :
  Calls Tryz.prog 39 #[.pointer (some ⟨b, 0, none⟩), .int .i64 cell, .int .i64 level] w fun e w' =>
   e = .returned (.int .i64 (firstD s.days.length fun k => decide (level <= (stAt s.l s.melt s.soak s.days s.rain x (k + 1)).f cell))) /\ w.grownBy w' (some b) := by
 have HO := Lib.hid ok
 have HW := Lib.hid h
 have hb := h.blk.lt
 have h8 := ok.few
 clear ok h
 refine callsIn_wide.1 (callsIn_of_wp_marks (n := 9) Tryz.func39 rfl trivial ?_ rfl)
 simp only [Tryz.ntmps39, List.size_toArray, List.length_cons, List.length_nil, Nat.reduceAdd, Nat.reduceSub, Array.replicate_succ, Array.replicate_zero, List.push_toArray, List.append_toArray, List.nil_append, List.cons_append]
 gi_wp2_with fail
 refine wpIn_scope_straight ?_
 gi_wp2_with fail
 refine wpIn_label ?_
 gi_wp2_with fail
 refine ⟨trivial, (callsIn_wide.2 (after_any _ _)).mono ?_⟩
 rintro e w' ⟨rfl, rfl⟩
 gi_wp2_with fail
 refine range_law (gf := 67) (lb := #[.pointer (some ⟨w.heap.size + 1 + 1 + 1 + 1, 0, none⟩)]) rfl (enters_of Tryz.func67 (by kernel_rfl) rfl) ?_
 intro r r1 r2 r3 r4 r5 r6
 simp only [World.size_alloc]
 have hJ : ∀ k W, (FirstAtW w b cell level (-1) r W /\ OnWay W b s (stAt s.l s.melt s.soak s.days s.rain x k).f (stAt s.l s.melt s.soak s.days s.rain x k).snow (stAt s.l s.melt s.soak s.days s.rain x k).left /\ early (fun k => decide (level <= (stAt s.l s.melt s.soak s.days s.rain x (k + 1)).f cell)) (List.range s.days.length) k) ->
   W.cell? ⟨w.heap.size + 1 + 1 + 1 + 1, 0, none⟩ = some (.pointer (some ⟨b, 0, none⟩)) /\ w.heap.size + 1 + 1 + 1 + 1 ≠ b /\ OnWay W b s (stAt s.l s.melt s.soak s.days s.rain x k).f (stAt s.l s.melt s.soak s.days s.rain x k).snow (stAt s.l s.melt s.soak s.days s.rain x k).left :=
  fun k W hj => ⟨hj.1.b4.at 0 rfl, by omega, hj.2.1⟩
 refine (callsIn_wide.1 (after1_in 8 (w.heap.size + 1 + 1 + 1 + 1 + 1 + 1) (w.heap.size + 1 + 1 + 1 + 1) b s x HO.out
  (fun k W => FirstAtW w b cell level (-1) r W /\ OnWay W b s (stAt s.l s.melt s.soak s.days s.rain x k).f (stAt s.l s.melt s.soak s.days s.rain x k).snow (stAt s.l s.melt s.soak s.days s.rain x k).left /\ early (fun k => decide (level <= (stAt s.l s.melt s.soak s.days s.rain x (k + 1)).f cell)) (List.range s.days.length) k)
  (fun W => ∃ k : Nat, FirstAtW w b cell level k (doneOf r (.exit 0)) W /\ k < s.days.length /\ early (fun k => decide (level <= (stAt s.l s.melt s.soak s.days s.rain x (k + 1)).f cell)) (List.range s.days.length) k /\ level <= (stAt s.l s.melt s.soak s.days s.rain x (k + 1)).f cell)
  hJ ?hY _ ?h0)).mono ?_
 case h0 =>
  refine ⟨FirstAtW.start w b cell level r, ?_, early_zero _ _⟩
  exact (((((((HW.out).alloc _).alloc _).alloc _).alloc _).alloc _).alloc _).alloc _
 case hY =>
  intro k W W' hk hj hg hw'
  have hf := hj.1.kept hb hg
  refine yield_round (r := r) hf.loop r1 r2 (by rw [r4]; rfl) ?_
  rw [r3, r4, r5, r6]
  simp only [List.zip_toArray, List.zip_cons_cons, List.zip_nil_right, List.foldl_toArray, List.foldl_cons, List.foldl_nil, List.setIfInBounds_toArray, List.set_cons_zero, List.set_cons_succ]
  gi_wp2_with fail
  refine ⟨hf.loop, ?_⟩
  have hw5 := hw'.put (l := w.heap.size + 1 + 1 + 1 + 1 + 1 + 1) (by omega) (.loop (busyOf r))
  have hf5 := hf.put (busyOf r)
  obtain ⟨w5, hw5e⟩ : ∃ w5, w5 = W'.putObj (w.heap.size + 1 + 1 + 1 + 1 + 1 + 1) (.loop (busyOf r)) := ⟨_, rfl⟩
  rw [<- hw5e] at hw5 hf5 ⊢
  have e0 := hf5.b0.at 0 rfl
  have e1 := hf5.b1.at 0 rfl
  have e2 := hf5.b2.at 0 rfl
  have e3 := hw5.blk.at (11 + cell) (wayCs_level _ _ _ _ (show cell < 8 by omega))
  have e4 := hf5.b3.at 0 rfl
  have e5 := hf5.b3.free 0
  have hc8 : (cell : Int) < 8 := by omega
  have H5 := Lib.hid (And.intro hf5 hw5)
  have HE := Lib.hid hj.2.2
  clear hw5 hf5 hw5e hf hj hg hw' r1 r2 r3 r4 r5 r6 hJ
  gi_wp2_with fail
  refine round_words (by kernel_rfl) (by kernel_rfl) (fun _ _ h => h) (region_told 7 (by kernel_rfl) (by kernel_rfl) (fun W => Below w5.heap.size w5 W) newer (pickD [vIs (.pointer (some ⟨b, 0, none⟩)), vIs (.int .i64 cell), vIs (.pointer (some ⟨b, 0, none⟩)), vIs (.pointer (some ⟨b, 11, none⟩)), vIs (.pointer (some ⟨b, 11 + cell, none⟩)), vIs (vi ((stAt s.l s.melt s.soak s.days s.rain x (k + 1)).f cell)), vIs (.int .i64 level)]) (fun h k => newer_trans h k) (pickD_stable _ ⟨vIs_st, vIs_st, vIs_st, vIs_st, vIs_st, vIs_st, vIs_st, trivial⟩) (Below.refl _ w5).drew (Below.refl _ _) ?_ ?_)
  ·refine ⟨?_, ?_, ?_, ?_, ?_, ?_, ?_, trivial⟩
   ·intro a W hG hR hO hp; have h3 := hO.slot 3 (by kernel_rfl); have c0 := keep_cell e0 hG; refine wp_yields (v := .pointer (some ⟨b, 0, none⟩)) ?_ ⟨_, rfl, rfl, Below.refl _ _, hG⟩; simp [slotOf] at h3; simp [execOp, go_sem, h3, c0]
   ·intro a W hG hR hO hp; have h4 := hO.slot 4 (by kernel_rfl); have c0 := keep_cell e1 hG; refine wp_yields (v := .int .i64 cell) ?_ ⟨_, rfl, rfl, Below.refl _ _, hG⟩; simp [slotOf] at h4; simp [execOp, go_sem, h4, c0]
   ·intro a W hG hR hO hp; have h13 : slotOf a 13 = .pointer (some ⟨b, 0, none⟩) := hp.1; refine wp_yields (v := .pointer (some ⟨b, 0, none⟩)) ?_ ⟨_, rfl, rfl, Below.refl _ _, hG⟩; simp [slotOf] at h13; simp [execOp, go_sem, h13]
   ·intro a W hG hR hO hp; have h15 : slotOf a 15 = .pointer (some ⟨b, 0, none⟩) := hp.1; refine wp_yields (v := .pointer (some ⟨b, 11, none⟩)) ?_ ⟨_, rfl, rfl, Below.refl _ _, hG⟩; simp [slotOf] at h15; simp [execOp, go_sem, h15]
   ·intro a W hG hR hO hp; have h16 : slotOf a 16 = .pointer (some ⟨b, 11, none⟩) := hp.1; have h14 : slotOf a 14 = .int .i64 cell := hp.2.1; refine wp_yields (v := .pointer (some ⟨b, 11 + cell, none⟩)) ?_ ⟨_, rfl, rfl, Below.refl _ _, hG⟩; simp [slotOf] at h16 h14; simp [execOp, go_sem, h16, h14, hc8]
   ·intro a W hG hR hO hp; have h17 : slotOf a 17 = .pointer (some ⟨b, 11 + cell, none⟩) := hp.1; have c0 := keep_cell e3 hG; refine wp_yields (v := vi ((stAt s.l s.melt s.soak s.days s.rain x (k + 1)).f cell)) ?_ ⟨_, rfl, rfl, Below.refl _ _, hG⟩; simp [slotOf] at h17; simp [execOp, go_sem, h17, c0]
   ·intro a W hG hR hO hp; have h5 := hO.slot 5 (by kernel_rfl); have c0 := keep_cell e2 hG; refine wp_yields (v := .int .i64 level) ?_ ⟨_, rfl, rfl, Below.refl _ _, hG⟩; simp [slotOf] at h5; simp [execOp, go_sem, h5, c0]
  ·intro W hG hR
   rintro _ rfl _ rfl _ rfl _ rfl _ rfl _ rfl _ rfl
   change wpList _ _ _ _ _ _
   simp only [Act.put, List.setIfInBounds_toArray, List.set_cons_zero, List.set_cons_succ, List.drop_succ_cons, List.drop_zero]
   have hf6 := (FirstAtW.kept2 H5.out.1 hG)
   have hw6 := (H5.out.2).below hG (H5.out.2).blk.lt
   have e6 := hf6.b3.at 0 rfl
   have e7 := hf6.b3.free 0
   by_cases hle : level <= (stAt s.l s.melt s.soak s.days s.rain x (k + 1)).f cell
   ·have HX : Hid ((W.setCell ⟨w.heap.size + 1 + 1 + 1, 0, none⟩ (.int .i64 k)).heap[w.heap.size + 1 + 1 + 1 + 1 + 1 + 1]? = some (.loop (busyOf r)) /\
     (∃ q : Nat, FirstAtW w b cell level q (doneOf r (.exit 0)) ((W.setCell ⟨w.heap.size + 1 + 1 + 1, 0, none⟩ (.int .i64 k)).putObj (w.heap.size + 1 + 1 + 1 + 1 + 1 + 1) (.loop (doneOf r (.exit 0)))) /\ q < s.days.length /\ early (fun k => decide (level <= (stAt s.l s.melt s.soak s.days s.rain x (k + 1)).f cell)) (List.range s.days.length) q /\ level <= (stAt s.l s.melt s.soak s.days s.rain x (q + 1)).f cell)) := by
     have h7 := hf6.found k
     exact ⟨h7.loop, k, h7.put _, hk, HE.out, hle⟩
    clear hf6 hw6 hG hR H5 e0 e1 e2 e3 e4 e5
    go_wp2_with fail
    refine onlyN_intro ?_
    gi_wp2_with fail
    obtain ⟨ha, hb'⟩ := HX.out
    exact ⟨ha, .inr ⟨rfl, hb'⟩⟩
   ·have HX : Hid (W.heap[w.heap.size + 1 + 1 + 1 + 1 + 1 + 1]? = some (.loop (busyOf r)) /\ (FirstAtW w b cell level (-1) r (W.putObj (w.heap.size + 1 + 1 + 1 + 1 + 1 + 1) (.loop r)) /\ OnWay (W.putObj (w.heap.size + 1 + 1 + 1 + 1 + 1 + 1) (.loop r)) b s (stAt s.l s.melt s.soak s.days s.rain x (k + 1)).f (stAt s.l s.melt s.soak s.days s.rain x (k + 1)).snow (stAt s.l s.melt s.soak s.days s.rain x (k + 1)).left /\ early (fun k => decide (level <= (stAt s.l s.melt s.soak s.days s.rain x (k + 1)).f cell)) (List.range s.days.length) (k + 1))) :=
     ⟨hf6.loop, hf6.put r, hw6.put (by omega) _, early_succ HE.out (by rw [List.getElem?_range hk]) (by simpa using hle)⟩
    clear hf6 hw6 hG hR H5 e0 e1 e2 e3 e4 e5
    go_wp2_with fail
    refine onlyN_intro ?_
    gi_wp2_with fail
    exact ⟨HX.out.1, .inl ⟨rfl, HX.out.2⟩⟩
 ·rintro e W ⟨⟨v, rfl⟩, hj | ⟨k, hf, hk, he, hle⟩⟩
  ·refine ⟨⟨_, rfl⟩, .inl ⟨hj.1.loop, ?_⟩⟩
   have h1 := hj.1.put (overOf r)
   have e0 := h1.b3.at 0 rfl
   have HX : Hid ((W.putObj (w.heap.size + 1 + 1 + 1 + 1 + 1 + 1) (.loop (overOf r))).heap[w.heap.size + 1 + 1 + 1 + 1 + 1]? = some (.deferred (some [])) /\ w.grownBy ((W.putObj (w.heap.size + 1 + 1 + 1 + 1 + 1 + 1) (.loop (overOf r))).putObj (w.heap.size + 1 + 1 + 1 + 1 + 1) (.deferred none)) (some b)) := ⟨h1.dfr, grown_put h1.grown (by omega) _⟩
   have he : firstD s.days.length (fun k => decide (level <= (stAt s.l s.melt s.soak s.days s.rain x (k + 1)).f cell)) = -1 := idx_none _ _ (by rw [List.length_range]; exact hj.2.2)
   have HF := Lib.hid he
   clear he h1 hj hJ r1 r2 r3 r4 r5 r6
   gi_wp2_with fail
   refine ⟨by simp, .inl ⟨_, _, rfl, run_takeDeferred HX.out.1, ?_⟩⟩
   exact ⟨_, results_tmp rfl _ _ _, by rw [HF.out]; rfl, HX.out.2⟩
  ·refine ⟨⟨_, rfl⟩, .inr ⟨.exit 0, hf.loop, ?_⟩⟩
   have h1 := hf.put (overOf (doneOf r (.exit 0)))
   have e0 := h1.b3.at 0 rfl
   have HX : Hid ((W.putObj (w.heap.size + 1 + 1 + 1 + 1 + 1 + 1) (.loop (overOf (doneOf r (.exit 0))))).heap[w.heap.size + 1 + 1 + 1 + 1 + 1]? = some (.deferred (some [])) /\ w.grownBy ((W.putObj (w.heap.size + 1 + 1 + 1 + 1 + 1 + 1) (.loop (overOf (doneOf r (.exit 0))))).putObj (w.heap.size + 1 + 1 + 1 + 1 + 1) (.deferred none)) (some b)) := ⟨h1.dfr, grown_put h1.grown (by omega) _⟩
   have he' : firstD s.days.length (fun k => decide (level <= (stAt s.l s.melt s.soak s.days s.rain x (k + 1)).f cell)) = (k : Int) := idx_here _ _ k k (by rw [List.getElem?_range hk]) (by simpa using hle) he
   have HF := Lib.hid he'
   clear h1 hf hJ r1 r2 r3 r4 r5 r6 he he' hle
   gi_wp2_with fail
   refine ⟨by simp, .inl ⟨_, _, rfl, run_takeDeferred HX.out.1, ?_⟩⟩
   exact ⟨_, results_tmp rfl _ _ _, by rw [HF.out]; rfl, HX.out.2⟩
end

section
open Go.RowKit Go.Shelf
def mkWay (g : Gnd) (A : Option Addr) (ap : Nat) (days : List Day) (D : Option Addr) (dp : Nat) (hi : Bool) (L : Option Addr) (lp : Nat) (R : Option Addr) (rp : Nat) : Way :=
 ⟨g.cells, A, ap, g.slo, g.shi, g.klo, g.khi, g.melt, days, D, dp, endOfW hi g.slo g.shi, endOfW hi g.klo g.khi, g.cells.map fun c => endOfW hi c.lo c.hi, L, lp, days.map fun d => endOfW hi d.lo d.hi, R, rp⟩
def stEnd (hi : Bool) (g : Gnd) : St := ⟨iAt (g.cells.map fun c => endOfW hi c.lo c.hi), endOfW hi g.slo g.shi, 0⟩
def stE (hi : Bool) (g : Gnd) (days : List Day) (k : Nat) : St := stAt g.cells g.melt (endOfW hi g.klo g.khi) days (days.map fun d => endOfW hi d.lo d.hi) (stEnd hi g) k
def vTruth (B : Nat) (hi : Bool) (g : Gnd) (days : List Day) (v : Value) (W : World) : Prop :=
 ∃ L lp R rp, v = truthV (endOfW hi g.slo g.shi) (endOfW hi g.klo g.khi) L g.cells.length lp R days.length rp /\ Row intL 1 W W.heap.size L (g.cells.map fun c => endOfW hi c.lo c.hi) /\ Row intL 1 W W.heap.size R (days.map fun d => endOfW hi d.lo d.hi) /\ (∀ a, L = some a -> B <= a.block) /\ (∀ a, R = some a -> B <= a.block)
theorem vTruth_st {B : Nat} {hi : Bool} {g : Gnd} {days : List Day} : ∀ (v : Value) (W W' : World), vTruth B hi g days v W -> newer W W' -> vTruth B hi g days v W' := by
 rintro v W W' ⟨L, lp, R, rp, h1, h2, h3, h4⟩ hb
 exact ⟨L, lp, R, rp, h1, (h2.below hb).more hb.size, (h3.below hb).more hb.size, h4⟩
def vWay (B : Nat) (g : Gnd) (A : Option Addr) (ap : Nat) (days : List Day) (D : Option Addr) (dp : Nat) (hi : Bool) (v : Value) (W : World) : Prop :=
 ∃ b L lp R rp, v = .pointer (some ⟨b, 0, none⟩) /\ B <= b /\ OnWay W b (mkWay g A ap days D dp hi L lp R rp) (stEnd hi g).f (stEnd hi g).snow 0 /\ (∀ a, L = some a -> B <= a.block) /\ (∀ a, R = some a -> B <= a.block)
theorem vWay_st {B : Nat} {g : Gnd} {A : Option Addr} {ap : Nat} {days : List Day} {D : Option Addr} {dp : Nat} {hi : Bool} : ∀ (v : Value) (W W' : World), vWay B g A ap days D dp hi v W -> newer W W' -> vWay B g A ap days D dp hi v W' := by
 rintro v W W' ⟨b, L, lp, R, rp, h1, h2, h3, h4⟩ hb
 exact ⟨b, L, lp, R, rp, h1, h2, h3.below hb h3.blk.lt, h4⟩
theorem truth_end (hi : Bool) (g : Gnd) (A : Option Addr) (ap : Nat) (days : List Day) (D : Option Addr) (dp : Nat) (w : World) (hn : g.cells.length <= 1000) (hm : days.length <= 1000) (hc : Row cellL 7 w w.heap.size A g.cells) (hd : Row dayL 3 w w.heap.size D days) :
  Calls Tryz.prog 38 #[choiceVW hi, gndV A ap g, .slice D days.length dp] w (ended w hi g days) := by
 cases hi
 ·exact truth_hi g A ap days D dp w hn hm hc hd
 ·exact truth_hi g A ap days D dp w hn hm hc hd
theorem begin_end (hi : Bool) (g : Gnd) (A : Option Addr) (ap : Nat) (days : List Day) (D : Option Addr) (dp : Nat) (L : Option Addr) (lp : Nat) (R : Option Addr) (rp : Nat) (w : World) (h8 : g.cells.length <= 8) (hc : Row cellL 7 w w.heap.size A g.cells) (hd : Row dayL 3 w w.heap.size D days)
  (hl : Row intL 1 w w.heap.size L (g.cells.map fun c => endOfW hi c.lo c.hi)) (hr : Row intL 1 w w.heap.size R (days.map fun d => endOfW hi d.lo d.hi)) :
  Calls Tryz.prog 36 #[gndV A ap g, .slice D days.length dp, truthV (endOfW hi g.slo g.shi) (endOfW hi g.klo g.khi) L g.cells.length lp R days.length rp] w (begun w (mkWay g A ap days D dp hi L lp R rp)) := by
 have := begin_any (mkWay g A ap days D dp hi L lp R rp) w (by simp [mkWay]; exact h8) hc hd hl hr
 simp only [mkWay, List.length_map] at this
 exact this
abbrev gndC (A : Option Addr) (ap : Nat) (g : Gnd) : Array Value := #[.slice A g.cells.length ap, vi g.slo, vi g.shi, vi g.klo, vi g.khi, vi g.melt]
theorem OnWay.var' {W : World} {b : Nat} {s : Way} {f : Nat -> Int} {snow left : Int} (h : OnWay W b s f snow left) {nb : Nat} {t : TypeId} {x : Value} (hu : ∀ n, x ≠ vi n) (ht : 124 ≠ t) (hW : Whole W nb t #[x]) (u : Value) : OnWay (W.setCell ⟨nb, 0, none⟩ u) b s f snow left :=
 ⟨h.blk.far (h.blk.ne hW ht) _, h.cells.var (fun c => ⟨c.lo, rfl⟩) hu hW _, h.days.var (fun c => ⟨c.lo, rfl⟩) hu hW _, h.levels.var (fun c => ⟨c, rfl⟩) hu hW _, h.rain.var (fun c => ⟨c, rfl⟩) hu hW _⟩
theorem fault_zero {g : Gnd} {days : List Day} (h : faultN g days = 0) : gndB g = true /\ days.length <= 30 /\ days.all dayB = true := by
 unfold faultN at h
 by_cases h1 : gndB g = true
 ·rw [if_pos h1] at h
  by_cases h2 : days.length > 30
  ·rw [if_pos h2] at h; omega
  ·rw [if_neg h2] at h
   by_cases h3 : days.all dayB = true
   ·exact ⟨h1, by omega, h3⟩
   ·rw [if_neg h3] at h; omega
 ·rw [if_neg h1] at h; omega
theorem wayOk_end (hi : Bool) {g : Gnd} {days : List Day} (h : faultN g days = 0) : WayOk g.cells g.melt (endOfW hi g.klo g.khi) days (days.map fun d => endOfW hi d.lo d.hi) (stEnd hi g) := by
 obtain ⟨h1, h2, h3⟩ := fault_zero h
 simp only [gndB, Bool.and_eq_true, inB, upB, decide_eq_true_eq] at h1
 obtain ⟨⟨⟨⟨⟨hn, hc⟩, hs⟩, hk⟩, hm⟩, _⟩ := h1
 have hcs : CsOk g.cells := fun i hi => by
  obtain ⟨c, hc'⟩ := get_of_lt hi
  rw [cAt_of hc']
  exact cellOk_of (List.all_eq_true.1 hc c (List.mem_of_getElem? hc'))
 have hds : DsOk days := fun i hi => by
  obtain ⟨c, hc'⟩ := get_of_lt hi
  rw [dAt_of hc']
  exact dayOk_of (List.all_eq_true.1 h3 c (List.mem_of_getElem? hc'))
 refine ⟨hcs, by omega, by omega, by omega, by cases hi <;> simp [endOfW] <;> omega, by cases hi <;> simp [endOfW] <;> omega, hds, h2, fun i hi' => ?_, by simp, ?_⟩
 ·obtain ⟨d, hd⟩ := get_of_lt hi'
  rw [mapAt _ _ _ _ hd]
  have := hds i hi'
  rw [dAt_of hd] at this
  have a := this.lo0; have b := this.lohi; have c := this.hi1
  cases hi <;> simp [endOfW] <;> omega
 ·refine ⟨fun i hi' => ?_, ?_, ?_, by simp [stEnd], by simp [stEnd]⟩
  ·obtain ⟨c, hc'⟩ := get_of_lt hi'
   have h4 := hcs i hi'
   rw [cAt_of hc'] at h4
   have a := h4.lo1; have b := h4.lohi; have c' := h4.hi2; have d := h4.cap2
   simp only [stEnd]
   rw [mapAt _ _ _ _ hc']
   cases hi <;> simp [endOfW] <;> omega
  ·cases hi <;> simp [stEnd, endOfW] <;> omega
  ·cases hi <;> simp [stEnd, endOfW] <;> omega
end

end Go.Proofs.YtcdhhfgpdokkoaaGreat
