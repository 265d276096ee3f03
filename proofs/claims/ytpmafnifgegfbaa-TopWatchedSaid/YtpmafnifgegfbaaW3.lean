/- A field of a survey, by words, as far as its ranges allow one. -/
import Derived.Test.YtpmafnifgegfbaaW2
import Derived.Test.YtpmafnifgegfbaaPE
import Derived.Test.YtpmafnifgegfbaaGW
import Derived.Test.YtpmafnifgegfbaaAG
namespace Go.Proofs.Ytpmafnifgegfbaa
open Go.RowKit Go.Shelf Go.Deep

theorem row_grownF {α : Type} {enc : α → List Value} {s : Nat} {w w' : World} {A : Option Addr} {l : List α} {x : Option Nat} (h : Row enc s w w.heap.size A l) (hg : w.grownBy w' x) (hne : ∀ ad, A = some ad → x ≠ some ad.block) : Row enc s w' w'.heap.size A l := by
 intro hl
 obtain ⟨b, off, rfl, hb, hc⟩ := h hl
 have hk := hg.block b hb (fun e => hne _ rfl e.symm)
 refine ⟨b, off, rfl, Nat.lt_of_lt_of_le hb hg.size, fun i y hy j u hu => ?_⟩
 rw [cell_of_same hk]
 exact hc i y hy j u hu
/-- Lists, each in a block from B on. -/
structure LkIn (B : Nat) (xs : List Ln) (W : World) : Prop where
 ok : ∀ x ∈ xs, Row intL 1 W W.heap.size x.a x.l
 hi : ∀ x ∈ xs, ∀ ad, x.a = some ad → B ≤ ad.block
 lt : ∀ x ∈ xs, ∀ ad, x.a = some ad → ad.block < W.heap.size
/-- Lists behind one another in a row of one's own. -/
structure LkJ (B : Nat) (L : List (List Int)) (xs : List Ln) (A : Option Addr) (c : Nat) (W : World) : Prop where
 own : W.ownsRow B 24 1 (.slice A xs.length c) xs.length (xs.flatMap lnL)
 sin : LkIn B xs W
 far : ∀ x ∈ xs, ∀ ad, x.a = some ad → (Value.slice A xs.length c).ownBlock ≠ some ad.block
 eq : xs.map (·.l) = L
section
variable {B : Nat} {L : List (List Int)} {us : List Ln} {A : Option Addr} {c : Nat} {W W' : World}
theorem LkIn.next (h : LkIn B us W) (hb : newer W W') : LkIn B us W' := ⟨fun x hx => ((h.ok x hx).below hb).more hb.size, h.hi, fun x hx ad had => Nat.lt_of_lt_of_le (h.lt x hx ad had) hb.size⟩
theorem LkIn.low {B' : Nat} (h : LkIn B us W) (hb : B' ≤ B) : LkIn B' us W := ⟨h.ok, fun x hx ad had => Nat.le_trans hb (h.hi x hx ad had), h.lt⟩
theorem LkJ.next (h : LkJ B L us A c W) (hb : newer W W') : LkJ B L us A c W' := ⟨own_below h.own hb, h.sin.next hb, h.far, h.eq⟩
theorem LkJ.none (B : Nat) (W : World) : LkJ B [] [] none 0 W := ⟨⟨rfl, .inl ⟨rfl, rfl⟩⟩, ⟨fun x hx => by simp at hx, fun x hx => by simp at hx, fun x hx => by simp at hx⟩, fun x hx => by simp at hx, rfl⟩
theorem LkJ.app (h : LkJ B L us A c W) {vs : List Ln} (hv : LkIn B vs W) (hf : ∀ x ∈ vs, ∀ ad, x.a = some ad → (Value.slice A us.length c).ownBlock ≠ some ad.block) {A' : Option Addr} {c' : Nat}
  (hown : W'.ownsRow B 24 1 (.slice A' (us.length + vs.length) c') (us.length + vs.length) (us.flatMap lnL ++ vs.flatMap lnL)) (hg : W.grownBy W' (Value.slice A us.length c).ownBlock)
  (hat : ∀ g, (Value.slice A' (us.length + vs.length) c').ownBlock = some g → (Value.slice A us.length c).ownBlock = some g ∨ g = W.heap.size) : LkJ B (L ++ vs.map (·.l)) (us ++ vs) A' c' W' := by
 have hall : ∀ x ∈ us ++ vs, Row intL 1 W W.heap.size x.a x.l ∧ (∀ ad, x.a = some ad → B ≤ ad.block) ∧ (∀ ad, x.a = some ad → ad.block < W.heap.size) ∧ ∀ ad, x.a = some ad → (Value.slice A us.length c).ownBlock ≠ some ad.block := fun x hx => by
  rcases List.mem_append.1 hx with hx | hx
  ·exact ⟨h.sin.ok x hx, h.sin.hi x hx, h.sin.lt x hx, h.far x hx⟩
  ·exact ⟨hv.ok x hx, hv.hi x hx, hv.lt x hx, hf x hx⟩
 refine ⟨by rw [List.length_append, List.flatMap_append]; exact hown, ⟨fun x hx => row_grownF (hall x hx).1 hg (hall x hx).2.2.2, fun x hx => (hall x hx).2.1, fun x hx ad had => Nat.lt_of_lt_of_le ((hall x hx).2.2.1 ad had) hg.size⟩, fun x hx ad had e => ?_, by rw [List.map_append, h.eq]⟩
 rw [List.length_append] at e
 rcases hat _ e with e | e
 ·exact (hall x hx).2.2.2 ad had e
 ·have := (hall x hx).2.2.1 ad had
  omega
theorem LkJ.new (h : LkJ B L us A c W) {w : World} (hB : w.heap.size ≤ B) (hn : newer w W) (hg : W.grownBy W' (Value.slice A us.length c).ownBlock) : newer w W' := by
 cases hx : (Value.slice A us.length c).ownBlock with
 | none =>
  rw [hx] at hg
  exact newer_trans hn (below_grown hg (fun q e => by cases e) (Nat.le_refl _))
 | some k =>
  rw [hx] at hg
  exact Below.trans hn (below_of_grown hg (Nat.le_trans hB (own_ge h.own k hx)) hn.size)
/-- Lists returned, in memory. -/
def LksAt (B : Nat) (L : List (List Int)) (v : Value) (W : World) : Prop := ∃ (xs : List Ln) (A : Option Addr) (c : Nat), v = .slice A xs.length c ∧ Row lnL 1 W W.heap.size A xs ∧ LkIn B xs W ∧ xs.map (·.l) = L
theorem LkJ.out {H : Nat} (h : LkJ B L us A c W) (hB : H ≤ B) : LksAt H L (.slice A us.length c) W := ⟨us, A, c, rfl, row_of_own (enc := lnL) (size := 1) (by decide) (fun _ => rfl) h.own, h.sin.low hB, h.eq⟩
end
theorem info_rowN : (Try.prog.info? 24).map (fun i => (i.zero, i.size, i.bytes)) = some (some (.slice none 0 0), 1, 24) := by kernel_rfl
theorem intL_one1 (n : Int) : ∀ u ∈ intL n, u.oneCell' = true := by
 intro u hu
 rw [List.mem_singleton.1 hu]
 rfl
theorem lnL_one1 (x : Ln) : ∀ u ∈ lnL x, u.oneCell' = true := by
 intro u hu
 rw [List.mem_singleton.1 hu]
 rfl
theorem row_half2 {w : World} {B : Nat} {A : Option Addr} {l : List Hlf} (h : Row hwL 1 w B A l) {k : Nat} {c : Hlf} (hk : l[k]? = some c) :
  ∃ b off, A = some ⟨b, off, none⟩ ∧ b < B ∧ w.cell? ⟨b, off + k, none⟩ = some (.int .u16 c.n) := by
 obtain ⟨b, off, e, hb, hc⟩ := h (ne_nil_of_get hk)
 exact ⟨b, off, e, hb, by simpa using hc k c hk 0 _ rfl⟩
/-- A word of some words. -/
def wordK (ws : List Hlf) (i : Nat) : Int := match ws[i % ws.length]? with
 | none => 0
 | some w => w.n
theorem wordK_bd (ws : List Hlf) (i : Nat) : 0 ≤ wordK ws i ∧ wordK ws i ≤ 65535 := by
 unfold wordK
 split
 ·omega
 ·rename_i w _
  exact ⟨w.lo, w.hi⟩
set_option maxRecDepth 100000 in
set_option maxHeartbeats 1000000 in
theorem word_any (ws : List Hlf) (A : Option Addr) (c i : Nat) (w : World) (hwl : ws.length ≤ maxLen) (hi : i ≤ 1000) (hr : Row hwL 1 w w.heap.size A ws) :
  Calls Try.prog 24 #[.slice A ws.length c, vi (i : Int)] w fun e w' => e = .returned (vi (wordK ws i)) ∧ newer w w' := by
 by_cases hbe : ws = []
 ·subst hbe
  have HP := Lib.hid (show wordK [] i = 0 from rfl)
  clear hr
  go_enter Try.func24, Try.ntmps24
  go_wp2_with fail
  go_ret
  exact ⟨by rw [HP.out]; rfl, newer_refl _⟩
 ·have hl0 : 0 < ws.length := List.length_pos_iff.2 hbe
  have hbn : ¬ (ws = []) := hbe
  have hcz : ¬ ((ws.length : Int) = 0) := by omega
  obtain ⟨j, hj⟩ : ∃ j, j = i % ws.length := ⟨_, rfl⟩
  have hjl : j < ws.length := by rw [hj]; exact Nat.mod_lt _ hl0
  have hjn : (j : Int) < ws.length := by omega
  have ej : (i : Int).tmod ws.length = j := by rw [hj, Int.tmod_eq_emod_of_nonneg (by omega)]; exact (Int.natCast_emod _ _).symm
  obtain ⟨y, hy⟩ := get_of_lt hjl
  have hrow := row_half2 hr hy
  have HP : Hid (wordK ws i = y.n) := Lib.hid (by unfold wordK; rw [← hj, hy])
  obtain ⟨ab, ao, rfl, _, cb⟩ := hrow
  have hb0 := y.lo
  have hb1 := y.hi
  obtain ⟨yn, hyn⟩ : ∃ yn : Int, yn = y.n := ⟨_, rfl⟩
  rw [← hyn] at cb hb0 hb1 HP
  have e31 : IntKind.i64.wrap yn = yn := IntWalk.i64_in _ (by omega)
  clear hr hy hj hbe hyn
  go_enter Try.func24, Try.ntmps24
  go_wp2_with fail
  go_ret
  exact ⟨by rw [HP.out]; rfl, newer_refl _⟩
theorem LksAt.irows {B : Nat} {L : List (List Int)} {xs : List Ln} {A : Option Addr} {W : World} (h1 : Row lnL 1 W W.heap.size A xs) (h2 : LkIn B xs W) (h3 : xs.map (·.l) = L) : IRows L A W := by
 intro k l hk
 rw [← h3, List.getElem?_map] at hk
 obtain ⟨x, hx, rfl⟩ := Option.map_eq_some_iff.1 hk
 obtain ⟨b, off, e, hb, hc⟩ := rowLn h1 hx
 exact ⟨b, off, x.a, x.c, e, hb, hc, h2.ok x (List.mem_of_getElem? hx)⟩
abbrev cpW (w3 : World) (l : List Int) (B2 : Option Addr) (c2 : Nat) : World := w3.alloc (.cells #[.slice B2 l.length c2] 24)
theorem copied_in {w wr w3 : World} {L : List (List Int)} {us : List Ln} {B : Option Addr} {d : Nat} {l : List Int} {B2 : Option Addr} {c2 : Nat} (hj : LkJ w.heap.size L us B d wr) (hn : newer w wr) (h3 : newer wr w3) (hown : w3.ownsRow wr.heap.size 3 1 (.slice B2 l.length c2) l.length (l.flatMap intL)) :
  LkJ w.heap.size L us B d (cpW w3 l B2 c2) ∧ Row lnL 1 (cpW w3 l B2 c2) (cpW w3 l B2 c2).heap.size (some ⟨w3.heap.size, 0, none⟩) [(⟨l, B2, c2⟩ : Ln)] ∧ w.heap.size ≤ (cpW w3 l B2 c2).heap.size ∧ newer w (cpW w3 l B2 c2) ∧ LkIn w.heap.size [(⟨l, B2, c2⟩ : Ln)] (cpW w3 l B2 c2) ∧ (∀ x ∈ [(⟨l, B2, c2⟩ : Ln)], ∀ ad, x.a = some ad → (Value.slice B us.length d).ownBlock ≠ some ad.block) := by
 have n0 := newer_allocH w3 (.cells #[.slice B2 l.length c2] 24)
 have n1 := newer_trans h3 n0
 have n2 := newer_trans hn n1
 have ho := own_below hown n0
 have hj2 := hj.next n1
 have hap : ∀ ad, B2 = some ad → w.heap.size ≤ ad.block ∧ ad.block < (cpW w3 l B2 c2).heap.size ∧ (Value.slice B us.length d).ownBlock ≠ some ad.block := fun ad had => by
  subst had
  rcases ho.2 with ⟨e, _⟩ | ⟨g, cap, cur, e, hg, hw, _⟩
  ·cases e
  ·injection e with e _ _
   injection e with e
   subst e
   refine ⟨Nat.le_trans hn.size hg, (Array.getElem?_eq_some_iff.1 hw).1, fun e2 => ?_⟩
   rcases hj2.own.2 with ⟨e3, _⟩ | ⟨g2, cap2, cur2, e3, hg2, hw2, _⟩
   ·rw [e3] at e2
    simp [Value.ownBlock] at e2
   ·rw [e3] at e2
    have e4 : g2 = g := by simpa [Value.ownBlock] using e2
    subst e4
    rw [hw] at hw2
    injection hw2 with hw2
    injection hw2 with _ hw2
    exact absurd hw2 (by decide)
 refine ⟨hj2, row_of_whole (enc := lnL) (s := 1) (fun _ => rfl) (Whole.made _ _ _) rfl, n2.size, n2, ⟨fun x hx => ?_, fun x hx ad had => ?_, fun x hx ad had => ?_⟩, fun x hx ad had => ?_⟩
 ·rw [List.mem_singleton.1 hx]
  exact row_of_own (enc := intL) (size := 1) (by decide) (fun _ => rfl) ho
 ·rw [List.mem_singleton.1 hx] at had
  exact (hap ad had).1
 ·rw [List.mem_singleton.1 hx] at had
  exact (hap ad had).2.1
 ·rw [List.mem_singleton.1 hx] at had
  exact (hap ad had).2.2
theorem copied_app {w X w5 : World} {L : List (List Int)} {us : List Ln} {B : Option Addr} {d k : Nat} {x : Ln} {P1 : Prop} {B4 : Option Addr} {c4 : Nat} (hu : us.length = k)
  (h : LkJ w.heap.size L us B d X ∧ P1 ∧ w.heap.size ≤ X.heap.size ∧ newer w X ∧ LkIn w.heap.size [x] X ∧ (∀ y ∈ [x], ∀ ad, y.a = some ad → (Value.slice B us.length d).ownBlock ≠ some ad.block))
  (hown : w5.ownsRow w.heap.size 24 1 (.slice B4 (k + [x].length) c4) (k + [x].length) (us.flatMap lnL ++ [x].flatMap lnL)) (hgr : X.grownBy w5 (Value.slice B k d).ownBlock)
  (hat : ∀ g, (Value.slice B4 (k + [x].length) c4).ownBlock = some g → (Value.slice B k d).ownBlock = some g ∨ g = X.heap.size) : LkJ w.heap.size (L ++ [x.l]) (us ++ [x]) B4 c4 w5 ∧ newer w w5 := by
 subst hu
 exact ⟨h.1.app h.2.2.2.2.1 h.2.2.2.2.2 hown hgr hat, h.1.new (Nat.le_refl _) h.2.2.2.1 hgr⟩
set_option maxRecDepth 100000 in
set_option maxHeartbeats 2000000 in
theorem copied_any (R : List (List Int)) (A : Option Addr) (c : Nat) (w : World) (hr : IRows R A w) (hn : R.length ≤ 1000) (hl : ∀ l ∈ R, l.length ≤ 1000) :
  Calls Try.prog 28 #[.slice A R.length c] w fun e w' => ∃ B d, e = .returned (.slice B R.length d) ∧ IRows R B w' ∧ newer w w' := by
 have HR := Lib.hid (And.intro hr hl)
 obtain ⟨n, hN⟩ : ∃ n, n = R.length := ⟨_, rfl⟩
 have HN := Lib.hid hN
 rw [← hN] at hn ⊢
 obtain ⟨i0, hi0, hz0, hz1, hz2⟩ := info_parts info_int
 have HI0 := Lib.hid (And.intro hi0 (And.intro hz0 (And.intro hz1 hz2)))
 obtain ⟨i1, hi1, hy0, hy1, hy2⟩ := info_parts info_rowN
 have HI1 := Lib.hid (And.intro hi1 (And.intro hy0 (And.intro hy1 hy2)))
 clear hr hl hN hi0 hz0 hz1 hz2 hi1 hy0 hy1 hy2
 go_enter Try.func28, Try.ntmps28
 go_wp2_with fail
 go_loopw [3, 4] (fun s3 s4 wr => ∃ (k : Nat) (us : List Ln) (B : Option Addr) (d : Nat), k ≤ n ∧ s4 = vi k ∧ us.length = k ∧ s3 = .slice B k d ∧ LkJ w.heap.size (R.take k) us B d wr ∧ newer w wr) (fun _ s4 _ => n - (intOf s4).toNat)
 case atStart => exact ⟨0, [], none, 0, Nat.zero_le _, rfl, rfl, rfl, LkJ.none _ _, newer_refl _⟩
 case round =>
  obtain ⟨k, us, B, d, hk, rfl, hul, rfl, hj, hnw⟩ := hrel
  have HJ := Lib.hid (And.intro hj (And.intro hnw hul))
  by_cases hlt : k < n
  ·obtain ⟨l, hl⟩ := get_of_lt (l := R) (k := k) (by have := HN.out; omega)
   obtain ⟨rb, ro, lb, lc, rfl, hrb, hc, hrow⟩ := (HR.out.1.next hnw) k l hl
   have hll := HR.out.2 l (List.mem_of_getElem? hl)
   have HL := Lib.hid (And.intro hl (And.intro hll hrow))
   have HNO : Hid (wr.ownsRow wr.heap.size 3 1 (.slice none 0 0) 0 []) := Lib.hid ⟨rfl, .inl ⟨rfl, rfl⟩⟩
   clear hl hll hrow hrb hj hnw hul
   go_wp2_with (first | (at_builtin; ((refine wpList_plain rfl fun _ hK => wp_append_all (enc := intL) (size := 1) wr.heap.size (.const (.slice none 0 0)) (.tmp 15) 24 3 i0 (.int .i64 0) 8 Try.underlying24 HI0.out.1 HI0.out.2.1 HI0.out.2.2.1 HI0.out.2.2.2 rfl (by omega) (fun _ => rfl) intL_one1 rfl none 0 0 [] rfl HNO.out l lb lc rfl HL.out.2.2 (by have := HL.out.2.1; unfold maxLen; omega) (by have := HL.out.2.1; omega) (Nat.le_refl _) fun B2 c2 w3 hown hgr hat => hK _ _ ?_); have hn3 : newer wr w3 := below_grown hgr (fun q hq => by simp [Value.ownBlock] at hq) (Nat.le_refl _); rw [Nat.zero_add, List.nil_append] at hown; rw [Nat.zero_add]; have H3 := Lib.hid (And.intro hn3 hown); clear hgr hat hn3 hown)) | (at_builtin; have HA := Lib.hid (copied_in HJ.out.1 HJ.out.2.1 H3.out.1 H3.out.2); go_loud ((refine wpList_plain rfl fun _ hK => wp_append_all (enc := lnL) (size := 1) w.heap.size (.tmp 11) (.tmp 17) 33 24 i1 (.slice none 0 0) 24 Try.underlying33 HI1.out.1 HI1.out.2.1 HI1.out.2.2.1 HI1.out.2.2.2 rfl (by omega) (fun _ => rfl) lnL_one1 rfl B k d (us.flatMap lnL) rfl (HJ.out.2.2 ▸ HA.out.1.own) [(⟨l, B2, c2⟩ : Ln)] (some ⟨w3.heap.size, 0, none⟩) 1 rfl HA.out.2.1 (by unfold maxLen; simp only [List.length_singleton]; omega) (by simp only [List.length_singleton]; omega) HA.out.2.2.1 fun B4 c4 w5 hown hgr hat => hK _ _ ?_); have HE := Lib.hid (copied_app HJ.out.2.2 HA.out hown hgr hat); clear hown hgr hat)))
   have ht : R.take (k + 1) = R.take k ++ [l] := by rw [List.take_add_one, HL.out.1]; rfl
   go_roundw
   case rel => exact ⟨k + 1, us ++ [⟨l, B2, c2⟩], B4, c4, by omega, by go_num, by rw [List.length_append, HJ.out.2.2]; rfl, rfl, by rw [ht]; exact HE.out.1, HE.out.2⟩
   case measure => simp [intOf]; omega
  ·obtain rfl : k = n := by omega
   clear hj hnw hul
   go_wp2_with fail
   go_ret
   refine ⟨B, d, rfl, ?_, HJ.out.2.1⟩
   have h1 := HJ.out.1
   rw [HN.out, List.take_length] at h1
   exact LksAt.irows (row_of_own (enc := lnL) (size := 1) (by decide) (fun _ => rfl) h1.own) h1.sin h1.eq

end Go.Proofs.Ytpmafnifgegfbaa

namespace Go.Proofs.Ytpmafnifgegfbaa
open Go.RowKit Go.Shelf Go.Deep

/-- A number of a range, by a word. -/
def mvN (low high n : Int) : Int := low + n % (high - low + 1)
theorem mv_inM {low high : Int} (h : low ≤ high) (n : Int) : low ≤ mvN low high n ∧ mvN low high n ≤ high := by
 unfold mvN
 have h1 := Int.emod_nonneg n (show high - low + 1 ≠ 0 by omega)
 have h2 := Int.emod_lt_of_pos n (show 0 < high - low + 1 by omega)
 omega
/-- The ranges of a spot behind a movement. -/
def narrowM (q : Int) (p : Sp) (a : Mv) : Sp := ⟨⟨mxI p.x.lo (a.1 - q), mnI p.x.hi (a.1 + q)⟩, ⟨mxI p.y.lo (a.2 - q), mnI p.y.hi (a.2 + q)⟩⟩
def rangesM (s : Sd) (p : Sp) (out : List Mv) (i : Nat) : Sp := if i = 0 then p else narrowM s.strain p (fnL out (i - 1))
def stepM (s : Sd) (pk : Nat → Int) (i : Nat) (out : List Mv) : Option (List Mv) := match s.spots[i]? with
 | none => none
 | some p => if (rangesM s p out i).x.hi < (rangesM s p out i).x.lo ∨ (rangesM s p out i).y.hi < (rangesM s p out i).y.lo then none else some (out ++ [(mvN (rangesM s p out i).x.lo (rangesM s p out i).x.hi (pk (2 * i)), mvN (rangesM s p out i).y.lo (rangesM s p out i).y.hi (pk (2 * i + 1)))])
/-- The field, so far. -/
def movedK (s : Sd) (pk : Nat → Int) : Nat → Option (List Mv)
 | 0 => some []
 | i + 1 => (movedK s pk i).bind (stepM s pk i)
theorem movedK_none (s : Sd) (pk : Nat → Int) : ∀ (k i : Nat), movedK s pk i = none → movedK s pk (i + k) = none
 | 0, _, h => h
 | k + 1, i, h => by
  show (movedK s pk (i + k)).bind _ = none
  rw [movedK_none s pk k i h]
  rfl
theorem mn_cM (a b : Int) : mnI a b ≤ a ∧ mnI a b ≤ b := by unfold mnI; split <;> omega
theorem mx_cM (a b : Int) : a ≤ mxI a b ∧ b ≤ mxI a b := by unfold mxI; split <;> omega
theorem moved_inv {s : Sd} (pk : Nat → Int) : ∀ (i : Nat) (f : List Mv), i ≤ s.spots.length → movedK s pk i = some f → f.length = i ∧ (∀ (j : Nat) (p : Sp), j < i → s.spots[j]? = some p → fnL f j ∈ movesL p) ∧ ∀ j, j + 1 < i → nearB s.strain (fnL f j) (fnL f (j + 1)) = true
 | 0, f, _, h => by
  have : f = [] := by injection h with h; exact h.symm
  subst this
  exact ⟨rfl, fun j p hj => by omega, fun j hj => by omega⟩
 | i + 1, f, hi, h => by
  have h' : (movedK s pk i).bind (stepM s pk i) = some f := h
  cases ho : movedK s pk i with
  | none => rw [ho] at h'; cases h'
  | some out =>
   rw [ho] at h'
   have h2 : stepM s pk i out = some f := h'
   obtain ⟨l1, l2, l3⟩ := moved_inv pk i out (by omega) ho
   unfold stepM at h2
   obtain ⟨p, hp⟩ : ∃ p, s.spots[i]? = some p := ⟨_, List.getElem?_eq_getElem (by omega)⟩
   rw [hp] at h2
   simp only at h2
   split at h2
   ·cases h2
   ·rename_i hc
    injection h2 with h2
    obtain ⟨q, hq⟩ : ∃ q, q = rangesM s p out i := ⟨_, rfl⟩
    rw [← hq] at h2 hc
    obtain ⟨m, hm⟩ : ∃ m : Mv, m = (mvN q.x.lo q.x.hi (pk (2 * i)), mvN q.y.lo q.y.hi (pk (2 * i + 1))) := ⟨_, rfl⟩
    rw [← hm] at h2
    have b1 := mv_inM (low := q.x.lo) (high := q.x.hi) (by omega) (pk (2 * i))
    have b2 := mv_inM (low := q.y.lo) (high := q.y.hi) (by omega) (pk (2 * i + 1))
    have e1 : m.1 = mvN q.x.lo q.x.hi (pk (2 * i)) := by rw [hm]
    have e2 : m.2 = mvN q.y.lo q.y.hi (pk (2 * i + 1)) := by rw [hm]
    rw [← e1] at b1
    rw [← e2] at b2
    have hat : ∀ j : Nat, fnL f j = if j = i then m else fnL out j := fun j => by
     unfold fnL
     rw [← h2, List.getD_eq_getElem?_getD, List.getD_eq_getElem?_getD]
     by_cases e : j = i
     ·subst e
      rw [if_pos rfl, List.getElem?_append_right (by omega), l1, Nat.sub_self]
      rfl
     ·rw [if_neg e]
      by_cases e3 : j < i
      ·rw [List.getElem?_append_left (by omega)]
      ·rw [List.getElem?_append_right (by omega), List.getElem?_eq_none (by simp; omega), List.getElem?_eq_none (by omega)]
    have hin : m ∈ movesL p ∧ (i = 0 ∨ nearB s.strain (fnL out (i - 1)) m = true) := by
     unfold rangesM at hq
     by_cases h0 : i = 0
     ·rw [if_pos h0] at hq
      subst hq
      exact ⟨mem_moves.2 ⟨b1, b2⟩, .inl h0⟩
     ·rw [if_neg h0] at hq
      unfold narrowM at hq
      have x1 := mx_cM p.x.lo ((fnL out (i - 1)).1 - s.strain)
      have x2 := mn_cM p.x.hi ((fnL out (i - 1)).1 + s.strain)
      have x3 := mx_cM p.y.lo ((fnL out (i - 1)).2 - s.strain)
      have x4 := mn_cM p.y.hi ((fnL out (i - 1)).2 + s.strain)
      rw [hq] at b1 b2
      dsimp only at b1 b2
      refine ⟨mem_moves.2 ⟨by omega, by omega⟩, .inr ?_⟩
      unfold nearB
      rw [Bool.and_eq_true, decide_eq_true_eq, decide_eq_true_eq, amt_le, amt_le]
      omega
    refine ⟨by rw [← h2, List.length_append, l1]; rfl, fun j p' hj hp' => ?_, fun j hj => ?_⟩
    ·rw [hat]
     by_cases e : j = i
     ·rw [if_pos e]
      subst e
      rw [hp] at hp'
      injection hp' with hp'
      rw [← hp']
      exact hin.1
     ·rw [if_neg e]
      exact l2 j p' (by omega) hp'
    ·rw [hat, hat, if_neg (show j ≠ i by omega)]
     by_cases e : j + 1 = i
     ·rw [if_pos e]
      have h5 := hin.2.resolve_left (by omega)
      rw [show i - 1 = j by omega] at h5
      exact h5
     ·rw [if_neg e]
      exact l3 j (by omega)
theorem moved_field {s : Sd} {pk : Nat → Int} {f : List Mv} (h : movedK s pk s.spots.length = some f) : f.length = s.spots.length ∧ FieldIn s (fnL f) := by
 obtain ⟨h1, h2, h3⟩ := moved_inv pk _ f (Nat.le_refl _) h
 exact ⟨h1, fun i p hp => h2 i p (List.getElem?_eq_some_iff.1 hp).1 hp, h3⟩
theorem info_moveM : (Try.prog.info? 47).map (fun i => (i.zero, i.size, i.bytes)) = some (some (.agg #[vi 0, vi 0]), 2, 16) := by kernel_rfl
theorem movedK_stop {s : Sd} {pk : Nat → Int} {i n : Nat} {f : List Mv} {p q : Sp} (hi : i < n) (hT : movedK s pk i = some f) (hp : s.spots[i]? = some p) (hq : q = rangesM s p f i) (h : q.x.hi < q.x.lo ∨ q.y.hi < q.y.lo) : movedK s pk n = none := by
 have h1 : movedK s pk (i + 1) = none := by
  show (movedK s pk i).bind (stepM s pk i) = none
  rw [hT]
  show stepM s pk i f = none
  unfold stepM
  rw [hp]
  simp only
  rw [← hq, if_pos h]
 have h2 := movedK_none s pk (n - (i + 1)) (i + 1) h1
 rw [show i + 1 + (n - (i + 1)) = n by omega] at h2
 exact h2
theorem movedK_go {s : Sd} {pk : Nat → Int} {i : Nat} {f : List Mv} {p q : Sp} (hT : movedK s pk i = some f) (hp : s.spots[i]? = some p) (hq : q = rangesM s p f i) (h1 : ¬ q.x.hi < q.x.lo) (h2 : ¬ q.y.hi < q.y.lo) : movedK s pk (i + 1) = some (f ++ [(mvN q.x.lo q.x.hi (pk (2 * i)), mvN q.y.lo q.y.hi (pk (2 * i + 1)))]) := by
 show (movedK s pk i).bind (stepM s pk i) = _
 rw [hT]
 show stepM s pk i f = _
 unfold stepM
 rw [hp]
 simp only
 rw [← hq, if_neg (by omega)]
theorem ranges_bdM {s : Sd} (h : SdOk s) {i : Nat} {f : List Mv} {p q : Sp} (hp : s.spots[i]? = some p) (hf : f.length = i ∧ (∀ (j : Nat) (p : Sp), j < i → s.spots[j]? = some p → fnL f j ∈ movesL p) ∧ ∀ j, j + 1 < i → nearB s.strain (fnL f j) (fnL f (j + 1)) = true) (hi : i < s.spots.length) (hq : q = rangesM s p f i) : (-30 ≤ q.x.lo ∧ q.x.lo ≤ 30) ∧ (-30 ≤ q.x.hi ∧ q.x.hi ≤ 30) ∧ (-30 ≤ q.y.lo ∧ q.y.lo ≤ 30) ∧ -30 ≤ q.y.hi ∧ q.y.hi ≤ 30 := by
 obtain ⟨⟨x1, x2, x3, x4⟩, y1, y2, y3, y4⟩ := h.spot p (List.mem_of_getElem? hp)
 unfold rangesM at hq
 by_cases h0 : i = 0
 ·rw [if_pos h0] at hq
  subst hq
  omega
 ·rw [if_neg h0] at hq
  obtain ⟨p1, hp1⟩ : ∃ p, s.spots[i - 1]? = some p := ⟨_, List.getElem?_eq_getElem (by omega)⟩
  have hb := moves_bd h hp1 (hf.2.1 (i - 1) p1 (by omega) hp1)
  have hs := h.strain
  rw [hq]
  unfold narrowM
  obtain ⟨a, ha⟩ : ∃ a, a = fnL f (i - 1) := ⟨_, rfl⟩
  rw [← ha] at hb ⊢
  dsimp only
  unfold mxI mnI
  refine ⟨?_, ?_, ?_, ?_⟩ <;> split <;> omega
def OldPM (v : Value) (W : World) : Prop := ∀ g o, v = .pointer (some ⟨g, o, none⟩) → g < W.heap.size
/-- What truth returns. -/
def MovedR (y : Sm) (pk : Nat → Int) (w : World) (e : Ending) (w' : World) : Prop :=
 (∃ f A c, movedK y.s pk y.s.spots.length = some f ∧ e = .returned (.tuple #[.slice A f.length c, .bool true]) ∧ w'.ownsRow w.heap.size 47 2 (.slice A f.length c) f.length (f.flatMap mvL) ∧ newer w w') ∨ (movedK y.s pk y.s.spots.length = none ∧ e = .returned (.tuple #[.slice none 0 0, .bool false]) ∧ newer w w')
set_option maxRecDepth 100000 in
set_option maxHeartbeats 4000000 in
theorem moved_any (y : Sm) (ws : List Hlf) (B : Option Addr) (bc fr : Nat) (w : World) (hfr : fr ≤ 100) (hok : SmOk y w) (hs : SdOk y.s) (hwl : ws.length ≤ maxLen) (hr : Row hwL 1 w w.heap.size B ws) : Calls Try.prog 20 #[smV y, .slice B ws.length bc, vi (fr : Int)] w (MovedR y (fun i => wordK ws (fr + i)) w) := by
 have hnw := newer_allocH w (.cells (smC y) 26)
 have hxb := Whole.made w 26 (smC y)
 have HB0 := Lib.hid (And.intro hnw hxb)
 have HOK := Lib.hid hok
 have HSD := Lib.hid hs
 have HR := Lib.hid hr
 have HWL := Lib.hid hwl
 obtain ⟨i0, hi0, hz0, hz1, hz2⟩ := info_parts info_moveM
 have HI := Lib.hid (And.intro hi0 (And.intro hz0 (And.intro hz1 hz2)))
 have hs6 := hs.spots.2
 have hst := hs.strain
 clear hi0 hz0 hz1 hz2 hok hs hr hwl hnw
 have x0 := hxb.at 0 (v := .slice y.sa y.s.spots.length y.sc) rfl
 have x1 := hxb.at 1 (v := vi y.s.strain) rfl
 have x2 := hxb.at 2 (v := .slice y.ta y.s.tools.length y.tc) rfl
 have x3 := hxb.at 3 (v := vi y.s.day) rfl
 have x4 := hxb.at 4 (v := .slice y.ra y.s.reads.length y.rc) rfl
 clear hxb
 go_enter Try.func20, Try.ntmps20
 go_upto_region 3 with fail
 refine genQ (fun X => newer w X ∧ Whole X w.heap.size 26 (smC y)) HB0.out ?_
 rintro w1 ⟨hn1, hb1⟩
 have HB1 := Lib.hid (And.intro hn1 hb1)
 clear x0 x1 x2 x3 x4 hn1 hb1 HB0
 go_loopw [8, 9, 10, 11, 12] (fun s6 s7 s8 s9 _ wr => ∃ (i : Nat) (A : Option Addr) (c : Nat) (f : List Mv), i ≤ y.s.spots.length ∧ s7 = vi i ∧ s6 = .slice A i c ∧ movedK y.s (fun i => wordK ws (fr + i)) i = some f ∧ wr.ownsRow w1.heap.size 47 2 (.slice A i c) i (f.flatMap mvL) ∧ newer w1 wr ∧ OldPM s8 wr ∧ OldPM s9 wr) (fun _ s7 _ _ _ _ => y.s.spots.length - (intOf s7).toNat)
 case atStart => exact ⟨0, none, 0, [], Nat.zero_le _, rfl, rfl, rfl, ⟨rfl, .inl ⟨rfl, rfl⟩⟩, newer_refl _, (show OldPM undef w1 from fun g o h => by cases h), (show OldPM undef w1 from fun g o h => by cases h)⟩
 case round =>
  obtain ⟨i, A, c, f, hi, rfl, rfl, hT, hown, hnw, ho8, ho9⟩ := hrel
  have HO8 := Lib.hid ho8
  have HO9 := Lib.hid ho9
  clear ho8 ho9
  have HJ := Lib.hid (And.intro hown (newer_trans HB1.out.1 hnw))
  have HB1N := Lib.hid hnw
  have HT := Lib.hid hT
  have hx := HB1.out.2.below hnw HB1.out.2.lt
  have HX := Lib.hid hx
  have x0 := hx.at 0 (v := .slice y.sa y.s.spots.length y.sc) rfl
  have x1 := hx.at 1 (v := vi y.s.strain) rfl
  have hfl := moved_inv (s := y.s) (fun i => wordK ws (fr + i)) i f hi hT
  by_cases hlt : i < y.s.spots.length
  case neg =>
   obtain rfl : i = y.s.spots.length := by omega
   have hge : ¬ (y.s.spots.length : Int) < y.s.spots.length := by omega
   have HL := Lib.hid hfl.1
   clear hT hown hnw hx hfl
   go_wp2_with fail
   exact bodyPost_ret (v := .tuple #[.slice A y.s.spots.length c, .bool true]) (by simp [results, Try.results20, go_sem]) rfl (show MovedR y (fun i => wordK ws (fr + i)) w _ _ from .inl ⟨f, A, c, HT.out, by rw [HL.out], by rw [HL.out]; exact own_more HJ.out.1 HB1.out.1.size, HJ.out.2⟩)
  case pos =>
   have hin : (i : Int) < y.s.spots.length := by omega
   obtain ⟨p, hp⟩ : ∃ p, y.s.spots[i]? = some p := ⟨_, List.getElem?_eq_getElem hlt⟩
   obtain ⟨sb, so, es, hsb, p0, p1, p2, p3⟩ := row4 (HOK.out.sp.below HJ.out.2) hp
   rw [es] at x0
   have HPP := Lib.hid hp
   have HFI := Lib.hid hfl
   have HIN := Lib.hid hlt
   clear hT hown hnw hp es hfl hx
   go_upto_region 5 with fail
   refine wp_words (by kernel_rfl) (region_lateA 15 14 (by kernel_rfl) (by kernel_rfl) (by decide) (by kernel_rfl) (Apart2 wr 10 11) (pickB [vIs (.pointer (some ⟨w.heap.size, 0, none⟩)), vIs (.slice (some ⟨sb, so, none⟩) y.s.spots.length y.sc), vIs (vi i), vIs (.pointer (some ⟨sb, so + i * 4, none⟩)), vIs (.pointer (some ⟨sb, so + i * 4, none⟩)), vIs (rgV p.x), vIs (.pointer (some ⟨w.heap.size, 0, none⟩)), vIs (.slice (some ⟨sb, so, none⟩) y.s.spots.length y.sc), vIs (vi i), vIs (.pointer (some ⟨sb, so + i * 4, none⟩)), vIs (.pointer (some ⟨sb, so + i * 4 + 2, none⟩)), vIs (rgV p.y), vNew wr.heap.size 71 #[vi 0, vi 0], vNew wr.heap.size 71 #[vi 0, vi 0], (fun _ _ => True)] [(fun _ _ => True), (fun _ _ => True), (fun _ _ => True), (fun _ _ => True), (fun _ _ => True), (fun _ _ => True), vIs (.pointer (some ⟨w.heap.size, 0, none⟩)), vIs (.slice (some ⟨sb, so, none⟩) y.s.spots.length y.sc), vIs (vi i), vIs (.pointer (some ⟨sb, so + i * 4, none⟩)), vIs (.pointer (some ⟨sb, so + i * 4 + 2, none⟩)), vIs (rgV p.y), vNew wr.heap.size 71 #[vi p.x.lo, vi p.x.hi], vNew wr.heap.size 71 #[vi 0, vi 0], (fun _ _ => True)]) (pickB_stable ⟨vIs_st, vIs_st, vIs_st, vIs_st, vIs_st, vIs_st, vIs_st, vIs_st, vIs_st, vIs_st, vIs_st, vIs_st, vNew_st, vNew_st, (fun _ _ _ h _ => h), trivial⟩ ⟨(fun _ _ _ h _ => h), (fun _ _ _ h _ => h), (fun _ _ _ h _ => h), (fun _ _ _ h _ => h), (fun _ _ _ h _ => h), (fun _ _ _ h _ => h), vIs_st, vIs_st, vIs_st, vIs_st, vIs_st, vIs_st, vNew_st, vNew_st, (fun _ _ _ h _ => h), trivial⟩) (Apart2.start (fun g o h => HO8.out g o h) (fun g o h => HO9.out g o h)) ?_ ?_)
   ·refine ⟨?_, ?_, ?_, ?_, ?_, ?_, ?_, ?_, ?_, ?_, ?_, ?_, ?_, ?_, ?_, trivial⟩
    ·intro a W hA hO hp
     have hG := hA.bl
     have h3 := hO.slot 3 (by kernel_rfl)
     refine wp_yields (v := .pointer (some ⟨w.heap.size, 0, none⟩)) ?_ ⟨_, rfl, rfl, Below.refl _ _, hA.put (Below.refl _ _) (by decide) (by decide)⟩
     simp [slotOf] at h3
     simp [execOp, go_sem, h3]
    ·intro a W hA hO hp
     have hG := hA.bl
     have h20 : slotOf a 20 = .pointer (some ⟨w.heap.size, 0, none⟩) := hp.1
     have c0 := keep_cell x0 hG
     refine wp_yields (v := .slice (some ⟨sb, so, none⟩) y.s.spots.length y.sc) ?_ ⟨_, rfl, rfl, Below.refl _ _, hA.put (Below.refl _ _) (by decide) (by decide)⟩
     simp [slotOf] at h20
     simp [execOp, go_sem, h20, c0]
    ·intro a W hA hO hp
     have hG := hA.bl
     have h9 := hO.slot 9 (by kernel_rfl)
     refine wp_yields (v := vi i) ?_ ⟨_, rfl, rfl, Below.refl _ _, hA.put (Below.refl _ _) (by decide) (by decide)⟩
     simp [slotOf] at h9
     simp [execOp, go_sem, h9]
    ·intro a W hA hO hp
     have hG := hA.bl
     have h21 : slotOf a 21 = .slice (some ⟨sb, so, none⟩) y.s.spots.length y.sc := hp.1
     have h22 : slotOf a 22 = vi i := hp.2.1
     refine wp_yields (v := .pointer (some ⟨sb, so + i * 4, none⟩)) ?_ ⟨_, rfl, rfl, Below.refl _ _, hA.put (Below.refl _ _) (by decide) (by decide)⟩
     simp [slotOf] at h21 h22
     simp [execOp, go_sem, h21, h22, hin]
    ·intro a W hA hO hp
     have hG := hA.bl
     have h23 : slotOf a 23 = .pointer (some ⟨sb, so + i * 4, none⟩) := hp.1
     refine wp_yields (v := .pointer (some ⟨sb, so + i * 4, none⟩)) ?_ ⟨_, rfl, rfl, Below.refl _ _, hA.put (Below.refl _ _) (by decide) (by decide)⟩
     simp [slotOf] at h23
     simp [execOp, go_sem, h23]
    ·intro a W hA hO hp
     have hG := hA.bl
     have h24 : slotOf a 24 = .pointer (some ⟨sb, so + i * 4, none⟩) := hp.1
     have c0 := keep_cell p0 hG
     have c1 := keep_cell p1 hG
     refine wp_yields (v := rgV p.x) ?_ ⟨_, rfl, rfl, Below.refl _ _, hA.put (Below.refl _ _) (by decide) (by decide)⟩
     simp [slotOf] at h24
     simp [execOp, go_sem, h24, c0, c1]
    ·intro b a W hA hO hp
     have hG := hA.bl
     have h3 := hO.slot 3 (by kernel_rfl)
     refine wp_yields (v := .pointer (some ⟨w.heap.size, 0, none⟩)) ?_ ⟨_, rfl, (by cases b <;> rfl), Below.refl _ _, hA.put (Below.refl _ _) (by decide) (by decide)⟩
     simp [slotOf] at h3
     simp [execOp, go_sem, h3]
    ·intro b a W hA hO hp
     have hG := hA.bl
     have h26 : slotOf a 26 = .pointer (some ⟨w.heap.size, 0, none⟩) := by cases b <;> exact hp.1
     have c0 := keep_cell x0 hG
     refine wp_yields (v := .slice (some ⟨sb, so, none⟩) y.s.spots.length y.sc) ?_ ⟨_, rfl, (by cases b <;> rfl), Below.refl _ _, hA.put (Below.refl _ _) (by decide) (by decide)⟩
     simp [slotOf] at h26
     simp [execOp, go_sem, h26, c0]
    ·intro b a W hA hO hp
     have hG := hA.bl
     have h9 := hO.slot 9 (by kernel_rfl)
     refine wp_yields (v := vi i) ?_ ⟨_, rfl, (by cases b <;> rfl), Below.refl _ _, hA.put (Below.refl _ _) (by decide) (by decide)⟩
     simp [slotOf] at h9
     simp [execOp, go_sem, h9]
    ·intro b a W hA hO hp
     have hG := hA.bl
     have h27 : slotOf a 27 = .slice (some ⟨sb, so, none⟩) y.s.spots.length y.sc := by cases b <;> exact hp.1
     have h28 : slotOf a 28 = vi i := by cases b <;> exact hp.2.1
     refine wp_yields (v := .pointer (some ⟨sb, so + i * 4, none⟩)) ?_ ⟨_, rfl, (by cases b <;> rfl), Below.refl _ _, hA.put (Below.refl _ _) (by decide) (by decide)⟩
     simp [slotOf] at h27 h28
     simp [execOp, go_sem, h27, h28, hin]
    ·intro b a W hA hO hp
     have hG := hA.bl
     have h29 : slotOf a 29 = .pointer (some ⟨sb, so + i * 4, none⟩) := by cases b <;> exact hp.1
     refine wp_yields (v := .pointer (some ⟨sb, so + i * 4 + 2, none⟩)) ?_ ⟨_, rfl, (by cases b <;> rfl), Below.refl _ _, hA.put (Below.refl _ _) (by decide) (by decide)⟩
     simp [slotOf] at h29
     simp [execOp, go_sem, h29]
    ·intro b a W hA hO hp
     have hG := hA.bl
     have h30 : slotOf a 30 = .pointer (some ⟨sb, so + i * 4 + 2, none⟩) := by cases b <;> exact hp.1
     have c0 := keep_cell p2 hG
     have c1 := keep_cell p3 hG
     refine wp_yields (v := rgV p.y) ?_ ⟨_, rfl, (by cases b <;> rfl), Below.refl _ _, hA.put (Below.refl _ _) (by decide) (by decide)⟩
     simp [slotOf] at h30
     simp [execOp, go_sem, h30, c0, c1]
    ·intro a W hA hO hp
     have hG := hA.bl
     refine wp_makes (v := .pointer (some ⟨W.heap.size, 0, none⟩)) (W' := W.alloc (.cells #[vi 0, vi 0] 71)) ?_ ⟨_, rfl, ⟨_, rfl, hG.size, Whole.made _ _ _⟩, newer_allocH _ _, hA.newP (by decide) _⟩
     skip
     simp [execOp, go_sem]
    ·intro a W hA hO hp
     have hG := hA.bl
     refine wp_makes (v := .pointer (some ⟨W.heap.size, 0, none⟩)) (W' := W.alloc (.cells #[vi 0, vi 0] 71)) ?_ ⟨_, rfl, ⟨_, rfl, hG.size, Whole.made _ _ _⟩, newer_allocH _ _, hA.newQ (by decide) _⟩
     skip
     simp [execOp, go_sem]
    ·intro a W hA hO hp
     have hG := hA.bl
     have h10 := hp.1
     have h25 : slotOf a 25 = rgV p.x := hp.2.1
     obtain ⟨g, h10, hg, hW⟩ := h10
     have b0 := hW.at 0 rfl
     have b1 := hW.at 1 rfl
     have f0 := hW.free 0
     have f1 := hW.free 1
     have hq := h10
     simp [slotOf] at h10 h25
     refine wp_storesE (W' := (W.setCell ⟨g, 0, none⟩ (vi p.x.lo)).setCell ⟨g, 1, none⟩ (vi p.x.hi)) (by simp [execOp, go_sem, h10, h25, b0, b1, f0, f1]) ⟨rfl, hA.step ((hG.setCell (p := ⟨g, 0, none⟩) hg _).setCell (p := ⟨g, 1, none⟩) hg _) (by simp), ?_⟩
     intro j oj d hj hoj hd hD
     match j, hoj, hD with
     | 0, _, _ => trivial
     | 1, _, _ => trivial
     | 2, _, _ => trivial
     | 3, _, _ => trivial
     | 4, _, _ => trivial
     | 5, _, _ => trivial
     | 6, _, hD =>
      exact hD
     | 7, _, hD =>
      exact hD
     | 8, _, hD =>
      exact hD
     | 9, _, hD =>
      exact hD
     | 10, _, hD =>
      exact hD
     | 11, _, hD =>
      exact hD
     | 12, hoj, _ =>
      obtain rfl := Option.some.inj hoj
      obtain rfl := Option.some.inj hd
      exact ⟨g, hq, hg, (hW.set 0 _).set 1 _⟩
     | 13, hoj, hD =>
      obtain rfl := Option.some.inj hoj
      obtain rfl := Option.some.inj hd
      obtain ⟨g2, h1, h2, h3⟩ := hD
      have hne := hA.ne g 0 g2 0 hq h1 hg h2
      exact ⟨g2, h1, h2, (h3.far (p := ⟨g, 0, none⟩) (Ne.symm hne) _).far (p := ⟨g, 1, none⟩) (Ne.symm hne) _⟩
     | 14, _, _ => trivial
     | (_ + 15), _, _ => omega
   ·intro w5
    rintro _ - _ - _ - _ - _ - _ - _ rfl _ rfl _ rfl _ rfl _ rfl _ rfl _ ⟨gx, rfl, hgx, hWx⟩ _ ⟨gy, rfl, hgy, hWy⟩ hA
    change wpList _ _ _ _ _ _
    simp only [Act.put, List.setIfInBounds_toArray, List.set_cons_zero, List.set_cons_succ, List.drop_succ_cons, List.drop_zero]
    have hne := hA.ne gx 0 gy 0 (by kernel_rfl) (by kernel_rfl) hgx hgy
    have v0 := hWy.at 0 rfl
    have v1 := hWy.at 1 rfl
    have f0 := hWy.free 0
    have f1 := hWy.free 1
    have HW5 := Lib.hid (And.intro hA.bl (And.intro hWx (And.intro hWy (And.intro hne hgy))))
    have HX5 := Lib.hid (HX.out.below hA.bl HX.out.lt)
    have HGX := Lib.hid (And.intro hgx hgy)
    clear hgx hgy hWx hWy hA hne p0 p1 p2 p3 x0
    have xb1 := HX5.out.at 1 (v := vi y.s.strain) rfl
    go_upto_region 6 with fail
    refine genQ (fun X => newer wr X ∧ Whole X gx 71 #[vi p.x.lo, vi p.x.hi] ∧ Whole X gy 71 #[vi p.y.lo, vi p.y.hi]) ⟨(HW5.out.1.setCell (p := ⟨gy, 0, none⟩) HW5.out.2.2.2.2 _).setCell (p := ⟨gy, 1, none⟩) HW5.out.2.2.2.2 _, (HW5.out.2.1.far (p := ⟨gy, 0, none⟩) HW5.out.2.2.2.1 _).far (p := ⟨gy, 1, none⟩) HW5.out.2.2.2.1 _, (HW5.out.2.2.1.set 0 _).set 1 _⟩ ?_
    rintro w6 ⟨hn6, hx6, hy6⟩
    clear v0 v1 f0 f1 xb1 x1
    by_cases hi0 : i = 0
    case pos =>
     have hb0 : ¬ (0 : Int) < i := by omega
     obtain ⟨q, hqq⟩ : ∃ q, q = rangesM y.s p f i := ⟨_, rfl⟩
     have hqp : q = p := by rw [hqq]; unfold rangesM; rw [if_pos hi0]
     rw [← hqp] at hx6 hy6
     have HQQ0 := Lib.hid hqq
     clear hqp hi0 HW5 hqq
     go_upto_region 9 with fail
     refine genQ (fun X => newer wr X ∧ Whole X gx 71 #[vi q.x.lo, vi q.x.hi] ∧ Whole X gy 71 #[vi q.y.lo, vi q.y.hi]) ⟨hn6, hx6, hy6⟩ ?_
     clear hn6 hx6 hy6
     rintro w9 ⟨hn9, hx9, hy9⟩
     have HQQ := HQQ0
     have HOW := Lib.hid (And.intro (own_below HJ.out.1 hn9) (newer_trans HJ.out.2 hn9))
     have HXN := Lib.hid (And.intro (show some gx ≠ (Value.slice A i c).ownBlock from (own_ne (own_below HJ.out.1 hn9) hx9 (by decide)).symm) (show some gy ≠ (Value.slice A i c).ownBlock from (own_ne (own_below HJ.out.1 hn9) hy9 (by decide)).symm))
     have u0 := hx9.at 0 (v := vi q.x.lo) rfl
     have u1 := hx9.at 1 (v := vi q.x.hi) rfl
     have u2 := hy9.at 0 (v := vi q.y.lo) rfl
     have u3 := hy9.at 1 (v := vi q.y.hi) rfl
     have HN9 := Lib.hid hn9
     have HLT := Lib.hid (And.intro hx9.lt hy9.lt)
     clear hn9 hx9 hy9 HQQ0
     by_cases hc : q.x.hi < q.x.lo
     case pos =>
      have HNO := Lib.hid (show movedK y.s (fun i => wordK ws (fr + i)) y.s.spots.length = none from movedK_stop (by have := HIN.out; omega) HT.out HPP.out HQQ.out (.inl hc))
      go_wp2_with fail
      exact bodyPost_ret (v := .tuple #[.slice none 0 0, .bool false]) (by simp [results, Try.results20, go_sem]) rfl (show MovedR y (fun i => wordK ws (fr + i)) w _ _ from .inr ⟨HNO.out, rfl, newer_trans HJ.out.2 HN9.out⟩)
     case neg =>
      by_cases hd : q.y.hi < q.y.lo
      case pos =>
       have HNO := Lib.hid (show movedK y.s (fun i => wordK ws (fr + i)) y.s.spots.length = none from movedK_stop (by have := HIN.out; omega) HT.out HPP.out HQQ.out (.inr hd))
       go_wp2_with fail
       exact bodyPost_ret (v := .tuple #[.slice none 0 0, .bool false]) (by simp [results, Try.results20, go_sem]) rfl (show MovedR y (fun i => wordK ws (fr + i)) w _ _ from .inr ⟨HNO.out, rfl, newer_trans HJ.out.2 HN9.out⟩)
      case neg =>
       have hqb := ranges_bdM HSD.out HPP.out HFI.out HIN.out HQQ.out
       obtain ⟨m, hm⟩ : ∃ m : Mv, m = (mvN q.x.lo q.x.hi (wordK ws (fr + 2 * i)), mvN q.y.lo q.y.hi (wordK ws (fr + 2 * i + 1))) := ⟨_, rfl⟩
       have HGO := Lib.hid (show movedK y.s (fun i => wordK ws (fr + i)) (i + 1) = some (f ++ [m]) from by rw [hm]; exact movedK_go HT.out HPP.out HQQ.out hc hd)
       have hfr2 := hfr
       have ei2 : IntKind.i64.wrap (2 * (i : Int)) = 2 * i := IntWalk.i64_in _ (by omega)
       have ei4 : IntKind.i64.wrap ((fr : Int) + 2 * i) = fr + 2 * i := IntWalk.i64_in _ (by omega)
       have ei5 : IntKind.i64.wrap ((fr : Int) + 2 * i + 1) = fr + 2 * i + 1 := IntWalk.i64_in _ (by omega)
       obtain ⟨k1, hk1⟩ : ∃ k, k = wordK ws (fr + 2 * i) := ⟨_, rfl⟩
       obtain ⟨k2, hk2⟩ : ∃ k, k = wordK ws (fr + 2 * i + 1) := ⟨_, rfl⟩
       have hkb1 := wordK_bd ws (fr + 2 * i)
       have hkb2 := wordK_bd ws (fr + 2 * i + 1)
       rw [← hk1] at hkb1
       rw [← hk2] at hkb2
       have HP1 : Hid (∀ W, newer w W → Calls Try.prog 24 #[.slice B ws.length bc, vi (fr + 2 * i)] W fun e w' => e = .returned (vi k1) ∧ newer W w') := Lib.hid (fun W hW => by
        have h := word_any ws B bc (fr + 2 * i) W HWL.out (by omega) ((HR.out.below hW).more hW.size)
        rw [show ((fr + 2 * i : Nat) : Int) = (fr : Int) + 2 * (i : Int) by omega] at h
        rw [hk1]
        exact h)
       have HP2 : Hid (∀ W, newer w W → Calls Try.prog 24 #[.slice B ws.length bc, vi (fr + 2 * i + 1)] W fun e w' => e = .returned (vi k2) ∧ newer W w') := Lib.hid (fun W hW => by
        have h := word_any ws B bc (fr + 2 * i + 1) W HWL.out (by omega) ((HR.out.below hW).more hW.size)
        rw [show ((fr + 2 * i + 1 : Nat) : Int) = (fr : Int) + 2 * (i : Int) + 1 by omega] at h
        rw [hk2]
        exact h)
       obtain ⟨r1, hr1⟩ : ∃ r, r = k1 % (q.x.hi - q.x.lo + 1) := ⟨_, rfl⟩
       obtain ⟨r2, hr2⟩ : ∃ r, r = k2 % (q.y.hi - q.y.lo + 1) := ⟨_, rfl⟩
       have er1 : k1.tmod (q.x.hi - q.x.lo + 1) = r1 := by rw [hr1, Int.tmod_eq_emod_of_nonneg hkb1.1]
       have er2 : k2.tmod (q.y.hi - q.y.lo + 1) = r2 := by rw [hr2, Int.tmod_eq_emod_of_nonneg hkb2.1]
       have hm1 : m.1 = q.x.lo + r1 := by rw [hm, hr1, hk1]; rfl
       have hm2 : m.2 = q.y.lo + r2 := by rw [hm, hr2, hk2]; rfl
       have hr1b : 0 ≤ r1 ∧ r1 < q.x.hi - q.x.lo + 1 := by rw [hr1]; exact ⟨Int.emod_nonneg _ (by omega), Int.emod_lt_of_pos _ (by omega)⟩
       have hr2b : 0 ≤ r2 ∧ r2 < q.y.hi - q.y.lo + 1 := by rw [hr2]; exact ⟨Int.emod_nonneg _ (by omega), Int.emod_lt_of_pos _ (by omega)⟩
       have es1 : IntKind.i64.wrap (q.x.hi - q.x.lo) = q.x.hi - q.x.lo := IntWalk.i64_in _ (by omega)
       have et1 : IntKind.i64.wrap (q.x.hi - q.x.lo + 1) = q.x.hi - q.x.lo + 1 := IntWalk.i64_in _ (by omega)
       have es2 : IntKind.i64.wrap (q.y.hi - q.y.lo) = q.y.hi - q.y.lo := IntWalk.i64_in _ (by omega)
       have et2 : IntKind.i64.wrap (q.y.hi - q.y.lo + 1) = q.y.hi - q.y.lo + 1 := IntWalk.i64_in _ (by omega)
       have ez1 : ¬ (q.x.hi - q.x.lo + 1 = 0) := by omega
       have ez2 : ¬ (q.y.hi - q.y.lo + 1 = 0) := by omega
       have ea1 : IntKind.i64.wrap (q.x.lo + r1) = m.1 := by rw [hm1]; exact IntWalk.i64_in _ (by omega)
       have ea2 : IntKind.i64.wrap (q.y.lo + r2) = m.2 := by rw [hm2]; exact IntWalk.i64_in _ (by omega)
       have HFEW := Lib.hid (show i < 1000 by omega)
       have HSZ := Lib.hid (newer_trans HB1N.out HN9.out).size
       have HNW := Lib.hid (own_lt HOW.out.1)
       clear hqb hm hm1 hm2 hr1 hr2 hk1 hk2
       go_upto_region 11 with fail
       refine wp_words (by kernel_rfl) (region_tale 37 (by kernel_rfl) (by kernel_rfl) 36 (fun W => w9.grownBy W (Value.slice A i c).ownBlock) (fun W => W.ownsRow (w1.heap.size) 47 2 (.slice A i c) i (f.flatMap mvL) ∧ newer w9 W) (relAt 36 (fun W W' => W.grownBy W' (Value.slice A i c).ownBlock)) (pickD [vIs (.slice A i c), vIs (.pointer (some ⟨gx, 0, none⟩)), vIs (vi q.x.lo), vIs (.slice B ws.length bc), vIs (vi fr), vIs (vi i), vIs (vi (2 * i)), vIs (vi (fr + 2 * i)), vIs (vi k1), vIs (.pointer (some ⟨gx, 1, none⟩)), vIs (vi q.x.hi), vIs (.pointer (some ⟨gx, 0, none⟩)), vIs (vi q.x.lo), vIs (vi (q.x.hi - q.x.lo)), vIs (vi (q.x.hi - q.x.lo + 1)), vIs (vi r1), vIs (vi m.1), vIs (.pointer (some ⟨gy, 0, none⟩)), vIs (vi q.y.lo), vIs (.slice B ws.length bc), vIs (vi fr), vIs (vi i), vIs (vi (2 * i)), vIs (vi (fr + 2 * i)), vIs (vi (fr + 2 * i + 1)), vIs (vi k2), vIs (.pointer (some ⟨gy, 1, none⟩)), vIs (vi q.y.hi), vIs (.pointer (some ⟨gy, 0, none⟩)), vIs (vi q.y.lo), vIs (vi (q.y.hi - q.y.lo)), vIs (vi (q.y.hi - q.y.lo + 1)), vIs (vi r2), vIs (vi m.2), vIs (mvV m), vOne w9.heap.size 47 #[vi m.1, vi m.2], vOwnV w1.heap.size 47 2 (i + 1) (f.flatMap mvL ++ [m].flatMap mvL)]) (allBut_ok (fun _ _ h => grown_of_newer h _) _ ⟨vIs_st, vIs_st, vIs_st, vIs_st, vIs_st, vIs_st, vIs_st, vIs_st, vIs_st, vIs_st, vIs_st, vIs_st, vIs_st, vIs_st, vIs_st, vIs_st, vIs_st, vIs_st, vIs_st, vIs_st, vIs_st, vIs_st, vIs_st, vIs_st, vIs_st, vIs_st, vIs_st, vIs_st, vIs_st, vIs_st, vIs_st, vIs_st, vIs_st, vIs_st, vIs_st, vOne_grown HNW.out, vOwnV_st, trivial⟩) (by decide) (grown_drew (grown_refl _ _)) ⟨HOW.out.1, (Below.refl _ _).drew⟩ ?_ ?_)
       ·refine ⟨?_, ?_, ?_, ?_, ?_, ?_, ?_, ?_, ?_, ?_, ?_, ?_, ?_, ?_, ?_, ?_, ?_, ?_, ?_, ?_, ?_, ?_, ?_, ?_, ?_, ?_, ?_, ?_, ?_, ?_, ?_, ?_, ?_, ?_, ?_, ?_, ?_, trivial⟩
        ·intro a W hG hG1 hO hp; have h8 := hO.slot 8 (by kernel_rfl); refine wp_yields (v := .slice A i c) ?_ ⟨_, rfl, rfl, newer_refl _, hG, fun _ h => h⟩; simp [slotOf] at h8; simp [execOp, go_sem, h8]
        ·intro a W hG hG1 hO hp; have h10 := hO.slot 10 (by kernel_rfl); refine wp_yields (v := .pointer (some ⟨gx, 0, none⟩)) ?_ ⟨_, rfl, rfl, newer_refl _, hG, fun _ h => h⟩; simp [slotOf] at h10; simp [execOp, go_sem, h10]
        ·intro a W hG hG1 hO hp; have h86 : slotOf a 86 = .pointer (some ⟨gx, 0, none⟩) := hp.1; have c0 := hG.cell u0 HXN.out.1; refine wp_yields (v := vi q.x.lo) ?_ ⟨_, rfl, rfl, newer_refl _, hG, fun _ h => h⟩; simp [slotOf] at h86; simp [execOp, go_sem, h86, c0]
        ·intro a W hG hG1 hO hp; have h1 := hO.slot 1 (by kernel_rfl); refine wp_yields (v := .slice B ws.length bc) ?_ ⟨_, rfl, rfl, newer_refl _, hG, fun _ h => h⟩; simp [slotOf] at h1; simp [execOp, go_sem, h1]
        ·intro a W hG hG1 hO hp; have h2 := hO.slot 2 (by kernel_rfl); refine wp_yields (v := vi fr) ?_ ⟨_, rfl, rfl, newer_refl _, hG, fun _ h => h⟩; simp [slotOf] at h2; simp [execOp, go_sem, h2]
        ·intro a W hG hG1 hO hp; have h9 := hO.slot 9 (by kernel_rfl); refine wp_yields (v := vi i) ?_ ⟨_, rfl, rfl, newer_refl _, hG, fun _ h => h⟩; simp [slotOf] at h9; simp [execOp, go_sem, h9]
        ·intro a W hG hG1 hO hp; have h90 : slotOf a 90 = vi i := hp.1; refine wp_yields (v := vi (2 * i)) ?_ ⟨_, rfl, rfl, newer_refl _, hG, fun _ h => h⟩; simp [slotOf] at h90; simp [execOp, go_sem, h90, ei2]
        ·intro a W hG hG1 hO hp; have h89 : slotOf a 89 = vi fr := hp.1; have h91 : slotOf a 91 = vi (2 * i) := hp.2.1; refine wp_yields (v := vi (fr + 2 * i)) ?_ ⟨_, rfl, rfl, newer_refl _, hG, fun _ h => h⟩; simp [slotOf] at h89 h91; simp [execOp, go_sem, h89, h91, ei4]
        ·intro a W hG hG1 hO hp
         have h88 : slotOf a 88 = .slice B ws.length bc := hp.1
         have h92 : slotOf a 92 = vi (fr + 2 * i) := hp.2.1
         refine wp_enters (f := 24) (args := #[.slice B ws.length bc, vi (fr + 2 * i)]) ?_ ((HP1.out W (below_row HOW.out.2 HOW.out.1 hG HB1.out.1.size)).mono ?_)
         ·simp [slotOf] at h88 h92
          simp [go_sem, h88, h92]
         ·rintro e w' ⟨rfl, hb⟩
          exact ⟨_, rfl, _, rfl, rfl, hb, grown_below hG hb, fun _ h => ⟨own_below h.1 hb, newer_trans h.2 hb⟩⟩
        ·intro a W hG hG1 hO hp; have h10 := hO.slot 10 (by kernel_rfl); refine wp_yields (v := .pointer (some ⟨gx, 1, none⟩)) ?_ ⟨_, rfl, rfl, newer_refl _, hG, fun _ h => h⟩; simp [slotOf] at h10; simp [execOp, go_sem, h10]
        ·intro a W hG hG1 hO hp; have h94 : slotOf a 94 = .pointer (some ⟨gx, 1, none⟩) := hp.1; have c0 := hG.cell u1 HXN.out.1; refine wp_yields (v := vi q.x.hi) ?_ ⟨_, rfl, rfl, newer_refl _, hG, fun _ h => h⟩; simp [slotOf] at h94; simp [execOp, go_sem, h94, c0]
        ·intro a W hG hG1 hO hp; have h10 := hO.slot 10 (by kernel_rfl); refine wp_yields (v := .pointer (some ⟨gx, 0, none⟩)) ?_ ⟨_, rfl, rfl, newer_refl _, hG, fun _ h => h⟩; simp [slotOf] at h10; simp [execOp, go_sem, h10]
        ·intro a W hG hG1 hO hp; have h96 : slotOf a 96 = .pointer (some ⟨gx, 0, none⟩) := hp.1; have c0 := hG.cell u0 HXN.out.1; refine wp_yields (v := vi q.x.lo) ?_ ⟨_, rfl, rfl, newer_refl _, hG, fun _ h => h⟩; simp [slotOf] at h96; simp [execOp, go_sem, h96, c0]
        ·intro a W hG hG1 hO hp; have h95 : slotOf a 95 = vi q.x.hi := hp.1; have h97 : slotOf a 97 = vi q.x.lo := hp.2.1; refine wp_yields (v := vi (q.x.hi - q.x.lo)) ?_ ⟨_, rfl, rfl, newer_refl _, hG, fun _ h => h⟩; simp [slotOf] at h95 h97; simp [execOp, go_sem, h95, h97, es1]
        ·intro a W hG hG1 hO hp; have h98 : slotOf a 98 = vi (q.x.hi - q.x.lo) := hp.1; refine wp_yields (v := vi (q.x.hi - q.x.lo + 1)) ?_ ⟨_, rfl, rfl, newer_refl _, hG, fun _ h => h⟩; simp [slotOf] at h98; simp [execOp, go_sem, h98, et1]
        ·intro a W hG hG1 hO hp; have h93 : slotOf a 93 = vi k1 := hp.1; have h99 : slotOf a 99 = vi (q.x.hi - q.x.lo + 1) := hp.2.1; refine wp_yields (v := vi r1) ?_ ⟨_, rfl, rfl, newer_refl _, hG, fun _ h => h⟩; simp [slotOf] at h93 h99; simp [execOp, go_sem, h93, h99, er1, ez1]
        ·intro a W hG hG1 hO hp; have h87 : slotOf a 87 = vi q.x.lo := hp.1; have h100 : slotOf a 100 = vi r1 := hp.2.1; refine wp_yields (v := vi m.1) ?_ ⟨_, rfl, rfl, newer_refl _, hG, fun _ h => h⟩; simp [slotOf] at h87 h100; simp [execOp, go_sem, h87, h100, ea1]
        ·intro a W hG hG1 hO hp; have h11 := hO.slot 11 (by kernel_rfl); refine wp_yields (v := .pointer (some ⟨gy, 0, none⟩)) ?_ ⟨_, rfl, rfl, newer_refl _, hG, fun _ h => h⟩; simp [slotOf] at h11; simp [execOp, go_sem, h11]
        ·intro a W hG hG1 hO hp; have h102 : slotOf a 102 = .pointer (some ⟨gy, 0, none⟩) := hp.1; have c0 := hG.cell u2 HXN.out.2; refine wp_yields (v := vi q.y.lo) ?_ ⟨_, rfl, rfl, newer_refl _, hG, fun _ h => h⟩; simp [slotOf] at h102; simp [execOp, go_sem, h102, c0]
        ·intro a W hG hG1 hO hp; have h1 := hO.slot 1 (by kernel_rfl); refine wp_yields (v := .slice B ws.length bc) ?_ ⟨_, rfl, rfl, newer_refl _, hG, fun _ h => h⟩; simp [slotOf] at h1; simp [execOp, go_sem, h1]
        ·intro a W hG hG1 hO hp; have h2 := hO.slot 2 (by kernel_rfl); refine wp_yields (v := vi fr) ?_ ⟨_, rfl, rfl, newer_refl _, hG, fun _ h => h⟩; simp [slotOf] at h2; simp [execOp, go_sem, h2]
        ·intro a W hG hG1 hO hp; have h9 := hO.slot 9 (by kernel_rfl); refine wp_yields (v := vi i) ?_ ⟨_, rfl, rfl, newer_refl _, hG, fun _ h => h⟩; simp [slotOf] at h9; simp [execOp, go_sem, h9]
        ·intro a W hG hG1 hO hp; have h106 : slotOf a 106 = vi i := hp.1; refine wp_yields (v := vi (2 * i)) ?_ ⟨_, rfl, rfl, newer_refl _, hG, fun _ h => h⟩; simp [slotOf] at h106; simp [execOp, go_sem, h106, ei2]
        ·intro a W hG hG1 hO hp; have h105 : slotOf a 105 = vi fr := hp.1; have h107 : slotOf a 107 = vi (2 * i) := hp.2.1; refine wp_yields (v := vi (fr + 2 * i)) ?_ ⟨_, rfl, rfl, newer_refl _, hG, fun _ h => h⟩; simp [slotOf] at h105 h107; simp [execOp, go_sem, h105, h107, ei4]
        ·intro a W hG hG1 hO hp; have h108 : slotOf a 108 = vi (fr + 2 * i) := hp.1; refine wp_yields (v := vi (fr + 2 * i + 1)) ?_ ⟨_, rfl, rfl, newer_refl _, hG, fun _ h => h⟩; simp [slotOf] at h108; simp [execOp, go_sem, h108, ei5]
        ·intro a W hG hG1 hO hp
         have h104 : slotOf a 104 = .slice B ws.length bc := hp.1
         have h109 : slotOf a 109 = vi (fr + 2 * i + 1) := hp.2.1
         refine wp_enters (f := 24) (args := #[.slice B ws.length bc, vi (fr + 2 * i + 1)]) ?_ ((HP2.out W (below_row HOW.out.2 HOW.out.1 hG HB1.out.1.size)).mono ?_)
         ·simp [slotOf] at h104 h109
          simp [go_sem, h104, h109]
         ·rintro e w' ⟨rfl, hb⟩
          exact ⟨_, rfl, _, rfl, rfl, hb, grown_below hG hb, fun _ h => ⟨own_below h.1 hb, newer_trans h.2 hb⟩⟩
        ·intro a W hG hG1 hO hp; have h11 := hO.slot 11 (by kernel_rfl); refine wp_yields (v := .pointer (some ⟨gy, 1, none⟩)) ?_ ⟨_, rfl, rfl, newer_refl _, hG, fun _ h => h⟩; simp [slotOf] at h11; simp [execOp, go_sem, h11]
        ·intro a W hG hG1 hO hp; have h111 : slotOf a 111 = .pointer (some ⟨gy, 1, none⟩) := hp.1; have c0 := hG.cell u3 HXN.out.2; refine wp_yields (v := vi q.y.hi) ?_ ⟨_, rfl, rfl, newer_refl _, hG, fun _ h => h⟩; simp [slotOf] at h111; simp [execOp, go_sem, h111, c0]
        ·intro a W hG hG1 hO hp; have h11 := hO.slot 11 (by kernel_rfl); refine wp_yields (v := .pointer (some ⟨gy, 0, none⟩)) ?_ ⟨_, rfl, rfl, newer_refl _, hG, fun _ h => h⟩; simp [slotOf] at h11; simp [execOp, go_sem, h11]
        ·intro a W hG hG1 hO hp; have h113 : slotOf a 113 = .pointer (some ⟨gy, 0, none⟩) := hp.1; have c0 := hG.cell u2 HXN.out.2; refine wp_yields (v := vi q.y.lo) ?_ ⟨_, rfl, rfl, newer_refl _, hG, fun _ h => h⟩; simp [slotOf] at h113; simp [execOp, go_sem, h113, c0]
        ·intro a W hG hG1 hO hp; have h112 : slotOf a 112 = vi q.y.hi := hp.1; have h114 : slotOf a 114 = vi q.y.lo := hp.2.1; refine wp_yields (v := vi (q.y.hi - q.y.lo)) ?_ ⟨_, rfl, rfl, newer_refl _, hG, fun _ h => h⟩; simp [slotOf] at h112 h114; simp [execOp, go_sem, h112, h114, es2]
        ·intro a W hG hG1 hO hp; have h115 : slotOf a 115 = vi (q.y.hi - q.y.lo) := hp.1; refine wp_yields (v := vi (q.y.hi - q.y.lo + 1)) ?_ ⟨_, rfl, rfl, newer_refl _, hG, fun _ h => h⟩; simp [slotOf] at h115; simp [execOp, go_sem, h115, et2]
        ·intro a W hG hG1 hO hp; have h110 : slotOf a 110 = vi k2 := hp.1; have h116 : slotOf a 116 = vi (q.y.hi - q.y.lo + 1) := hp.2.1; refine wp_yields (v := vi r2) ?_ ⟨_, rfl, rfl, newer_refl _, hG, fun _ h => h⟩; simp [slotOf] at h110 h116; simp [execOp, go_sem, h110, h116, er2, ez2]
        ·intro a W hG hG1 hO hp; have h103 : slotOf a 103 = vi q.y.lo := hp.1; have h117 : slotOf a 117 = vi r2 := hp.2.1; refine wp_yields (v := vi m.2) ?_ ⟨_, rfl, rfl, newer_refl _, hG, fun _ h => h⟩; simp [slotOf] at h103 h117; simp [execOp, go_sem, h103, h117, ea2]
        ·intro a W hG hG1 hO hp; have h101 : slotOf a 101 = vi m.1 := hp.1; have h118 : slotOf a 118 = vi m.2 := hp.2.1; refine wp_yields (v := mvV m) ?_ ⟨_, rfl, rfl, newer_refl _, hG, fun _ h => h⟩; simp [slotOf] at h101 h118; simp [execOp, go_sem, h101, h118]
        ·intro a W hG hG1 hO hp; have h119 : slotOf a 119 = mvV m := hp.1; refine wp_makes (v := .slice (some ⟨W.heap.size, 0, none⟩) 1 1) (W' := W.alloc (.cells #[vi m.1, vi m.2] 47)) ?_ ⟨_, rfl, ⟨_, rfl, hG.size, Whole.made _ _ _⟩, newer_allocH _ _, grown_alloc hG _, fun _ h => ⟨own_below h.1 (newer_allocH _ _), newer_trans h.2 (newer_allocH _ _)⟩⟩; simp [slotOf] at h119; simp [execOp, go_sem, h119]
        ·intro a W hG hG1 hO hp; have h85 : slotOf a 85 = .slice A i c := hp.1; have h120 := hp.2.1; obtain ⟨nb, h120, hnb, hW⟩ := h120; obtain ⟨ho, hnw⟩ := hG1 rfl; obtain ⟨hi0, hz0, hz1, hz2⟩ := HI.out; refine wp_append_all (enc := mvL) (size := 2) (w1.heap.size) (.tmp 85) (.tmp 120) 34 47 i0 (.agg #[vi 0, vi 0]) 16 Try.underlying34 hi0 hz0 hz1 hz2 rfl (by omega) (fun _ => rfl) mvL_one rfl A i c (f.flatMap mvL) ((eval_slot a 85).trans h85) ho [m] (some ⟨nb, 0, none⟩) 1 ((eval_slot a 120).trans h120) (row_of_whole (enc := mvL) (s := 2) (fun _ => rfl) hW rfl) (by have := HFEW.out; unfold maxLen; simp only [List.length_singleton]; omega) (by have := HFEW.out; simp only [List.length_singleton]; omega) (Nat.le_trans HSZ.out hG.size) ?_; intro B c' w1 hown hgr hat; exact ⟨_, rfl, ⟨B, c', rfl, hown⟩, hgr, grown_trans' hG hgr, fun e => absurd rfl e⟩
       ·intro w10 hG
        rintro _ rfl _ rfl _ rfl _ rfl _ rfl _ rfl _ rfl _ rfl _ rfl _ rfl _ rfl _ rfl _ rfl _ rfl _ rfl _ rfl _ rfl _ rfl _ rfl _ rfl _ rfl _ rfl _ rfl _ rfl _ rfl _ rfl _ rfl _ rfl _ rfl _ rfl _ rfl _ rfl _ rfl _ rfl _ rfl _ hv120 _ ⟨B2, c2, rfl, hown⟩
        change wpList _ _ _ _ _ _
        simp only [Act.put, List.setIfInBounds_toArray, List.set_cons_zero, List.set_cons_succ, List.drop_succ_cons, List.drop_zero]
        have HE := Lib.hid (And.intro hown trivial)
        have HGR := Lib.hid hG
        clear hG hown u0 u1 u2 u3 hv120
        go_wp2_with fail
        refine ⟨⟨i + 1, B2, c2, f ++ [m], by omega, rfl, rfl, HGO.out, by have h := HE.out.1; rw [← List.flatMap_append] at h; exact h, below_row (newer_trans HB1N.out HN9.out) HOW.out.1 HGR.out (Nat.le_refl _), fun g o h => by injection h with h; injection h with h; injection h with h; rw [← h]; exact Nat.lt_of_lt_of_le HLT.out.1 HGR.out.size, fun g o h => by injection h with h; injection h with h; injection h with h; rw [← h]; exact Nat.lt_of_lt_of_le HLT.out.2 HGR.out.size⟩, ?_⟩
        simp [intOf]
        omega
    case neg =>
     have hb0 : (0 : Int) < i := by omega
     obtain ⟨i1, hi1⟩ : ∃ i1, i = i1 + 1 := ⟨i - 1, by omega⟩
     have e1 : (i : Int) - 1 = (i1 : Int) := by omega
     have ei : IntKind.i64.wrap ((i : Int) - 1) = (i1 : Int) := by rw [e1]; exact IntWalk.i64_in _ (by omega)
     have hi1n : (i1 : Int) < i := by omega
     obtain ⟨p1, hp1⟩ : ∃ p, y.s.spots[i1]? = some p := ⟨_, List.getElem?_eq_getElem (by omega)⟩
     obtain ⟨m0, hm0⟩ : ∃ m, f[i1]? = some m := ⟨_, List.getElem?_eq_getElem (by have := HFI.out.1; omega)⟩
     have hfm : fnL f i1 = m0 := fnL_at hm0
     have hmb := moves_bd (m := m0) HSD.out hp1 (by rw [← hfm]; exact HFI.out.2.1 i1 p1 (by omega) hp1)
     obtain ⟨q, hqq⟩ : ∃ q, q = rangesM y.s p f i := ⟨_, rfl⟩
     have hqn : q = narrowM y.s.strain p m0 := by rw [hqq]; unfold rangesM; rw [if_neg hi0, show i - 1 = i1 by omega, hfm]
     have eq1 : q.x.lo = mxI p.x.lo (m0.1 - y.s.strain) := by rw [hqn]; rfl
     have eq2 : q.x.hi = mnI p.x.hi (m0.1 + y.s.strain) := by rw [hqn]; rfl
     have eq3 : q.y.lo = mxI p.y.lo (m0.2 - y.s.strain) := by rw [hqn]; rfl
     have eq4 : q.y.hi = mnI p.y.hi (m0.2 + y.s.strain) := by rw [hqn]; rfl
     have HQQ0 := Lib.hid hqq
     have HE4 := Lib.hid (And.intro eq1 (And.intro eq2 (And.intro eq3 eq4)))
     have hst1 := HSD.out.strain.1
     have hst2 := HSD.out.strain.2
     have ew1 : IntKind.i64.wrap (m0.1 - y.s.strain) = m0.1 - y.s.strain := IntWalk.i64_in _ (by omega)
     have ew2 : IntKind.i64.wrap (m0.1 + y.s.strain) = m0.1 + y.s.strain := IntWalk.i64_in _ (by omega)
     have ew3 : IntKind.i64.wrap (m0.2 - y.s.strain) = m0.2 - y.s.strain := IntWalk.i64_in _ (by omega)
     have ew4 : IntKind.i64.wrap (m0.2 + y.s.strain) = m0.2 + y.s.strain := IntWalk.i64_in _ (by omega)
     have how6 := own_below HJ.out.1 hn6
     obtain ⟨fb, fo, ef, _, m0c, m1c⟩ := row2 (row_of_own (enc := mvL) (size := 2) (by decide) (fun _ => rfl) (show w6.ownsRow w1.heap.size 47 2 (.slice A f.length c) f.length (f.flatMap mvL) by rw [HFI.out.1]; exact how6)) hm0
     have HEF := Lib.hid ef
     rw [ef]
     have HWS := Lib.hid (And.intro hn6 (And.intro hx6 (And.intro hy6 HW5.out.2.2.2)))
     clear hi1 hp1 hm0 hfm hmb hqn hqq eq1 eq2 eq3 eq4 how6 ef hn6 hx6 hy6 HW5 hi0 hst1 hst2
     go_upto_region 8 with fail
     rw [← HEF.out]
     obtain ⟨gm, hgm⟩ : ∃ r, r = w6.heap.size := ⟨_, rfl⟩
     rw [← hgm]
     have hna := newer_allocH w6 (.cells #[vi m0.1, vi m0.2] 47)
     refine genQ (fun X => newer wr X ∧ Whole X gx 71 #[vi p.x.lo, vi p.x.hi] ∧ Whole X gy 71 #[vi p.y.lo, vi p.y.hi] ∧ Whole X gm 47 #[vi m0.1, vi m0.2]) ⟨newer_trans HWS.out.1 hna, HWS.out.2.1.below hna HWS.out.2.1.lt, HWS.out.2.2.1.below hna HWS.out.2.2.1.lt, by rw [hgm]; exact Whole.made _ _ _⟩ ?_
     rintro w7 ⟨hn7, hx7, hy7, hm7⟩
     have u0 := hx7.at 0 (v := vi p.x.lo) rfl
     have u1 := hx7.at 1 (v := vi p.x.hi) rfl
     have u2 := hy7.at 0 (v := vi p.y.lo) rfl
     have u3 := hy7.at 1 (v := vi p.y.hi) rfl
     have k0 := hm7.at 0 (v := vi m0.1) rfl
     have k1 := hm7.at 1 (v := vi m0.2) rfl
     have x1 := (HX.out.below hn7 HX.out.lt).at 1 (v := vi y.s.strain) rfl
     have HW7 := Lib.hid (And.intro hn7 (And.intro hx7 (And.intro hy7 (And.intro hm7 (And.intro (HX.out.below hn7 HX.out.lt) HWS.out.2.2.2)))))
     have hgxw : gx ≠ w.heap.size := fun e => by have h1 := HGX.out.1; have h2 := HX.out.lt; omega
     have hgxm : gx ≠ gm := fun e => by have h1 := HWS.out.2.1.lt; omega
     have HNE := Lib.hid (And.intro HWS.out.2.2.2.1 (And.intro hgxm hgxw))
     obtain ⟨eq1, eq2, eq3, eq4⟩ := HE4.out
     clear hn7 hx7 hy7 hm7 hgm hna HWS m0c m1c
     refine wp_words (by kernel_rfl) (region_lateG 35 34 (by kernel_rfl) (by kernel_rfl) (by decide) (by kernel_rfl) (fun b W => newer wr W ∧ Whole W gx 71 (bif b then #[vi q.x.lo, vi q.x.hi] else #[vi p.x.lo, vi p.x.hi]) ∧ Whole W gy 71 #[vi p.y.lo, vi p.y.hi] ∧ Whole W gm 47 #[vi m0.1, vi m0.2] ∧ Whole W w.heap.size 26 (smC y)) (pickB [vIs (.pointer (some ⟨gx, 0, none⟩)), vIs (vi p.x.lo), vIs (.pointer (some ⟨gm, 0, none⟩)), vIs (vi m0.1), vIs (.pointer (some ⟨w.heap.size, 1, none⟩)), vIs (vi y.s.strain), vIs (vi (m0.1 - y.s.strain)), vIs (vi q.x.lo), vIs (.pointer (some ⟨gx, 1, none⟩)), vIs (vi p.x.hi), vIs (.pointer (some ⟨gm, 0, none⟩)), vIs (vi m0.1), vIs (.pointer (some ⟨w.heap.size, 1, none⟩)), vIs (vi y.s.strain), vIs (vi (m0.1 + y.s.strain)), vIs (vi q.x.hi), vIs (rgV q.x), vIs (.pointer (some ⟨gy, 0, none⟩)), vIs (vi p.y.lo), vIs (.pointer (some ⟨gm, 1, none⟩)), vIs (vi m0.2), vIs (.pointer (some ⟨w.heap.size, 1, none⟩)), vIs (vi y.s.strain), vIs (vi (m0.2 - y.s.strain)), vIs (vi q.y.lo), vIs (.pointer (some ⟨gy, 1, none⟩)), vIs (vi p.y.hi), vIs (.pointer (some ⟨gm, 1, none⟩)), vIs (vi m0.2), vIs (.pointer (some ⟨w.heap.size, 1, none⟩)), vIs (vi y.s.strain), vIs (vi (m0.2 + y.s.strain)), vIs (vi q.y.hi), vIs (rgV q.y), (fun _ _ => True)] [(fun _ _ => True), (fun _ _ => True), (fun _ _ => True), (fun _ _ => True), (fun _ _ => True), (fun _ _ => True), (fun _ _ => True), (fun _ _ => True), (fun _ _ => True), (fun _ _ => True), (fun _ _ => True), (fun _ _ => True), (fun _ _ => True), (fun _ _ => True), (fun _ _ => True), (fun _ _ => True), (fun _ _ => True), vIs (.pointer (some ⟨gy, 0, none⟩)), vIs (vi p.y.lo), vIs (.pointer (some ⟨gm, 1, none⟩)), vIs (vi m0.2), vIs (.pointer (some ⟨w.heap.size, 1, none⟩)), vIs (vi y.s.strain), vIs (vi (m0.2 - y.s.strain)), vIs (vi q.y.lo), vIs (.pointer (some ⟨gy, 1, none⟩)), vIs (vi p.y.hi), vIs (.pointer (some ⟨gm, 1, none⟩)), vIs (vi m0.2), vIs (.pointer (some ⟨w.heap.size, 1, none⟩)), vIs (vi y.s.strain), vIs (vi (m0.2 + y.s.strain)), vIs (vi q.y.hi), vIs (rgV q.y), (fun _ _ => True)]) (pickB_stable ⟨vIs_st, vIs_st, vIs_st, vIs_st, vIs_st, vIs_st, vIs_st, vIs_st, vIs_st, vIs_st, vIs_st, vIs_st, vIs_st, vIs_st, vIs_st, vIs_st, vIs_st, vIs_st, vIs_st, vIs_st, vIs_st, vIs_st, vIs_st, vIs_st, vIs_st, vIs_st, vIs_st, vIs_st, vIs_st, vIs_st, vIs_st, vIs_st, vIs_st, vIs_st, (fun _ _ _ h _ => h), trivial⟩ ⟨(fun _ _ _ h _ => h), (fun _ _ _ h _ => h), (fun _ _ _ h _ => h), (fun _ _ _ h _ => h), (fun _ _ _ h _ => h), (fun _ _ _ h _ => h), (fun _ _ _ h _ => h), (fun _ _ _ h _ => h), (fun _ _ _ h _ => h), (fun _ _ _ h _ => h), (fun _ _ _ h _ => h), (fun _ _ _ h _ => h), (fun _ _ _ h _ => h), (fun _ _ _ h _ => h), (fun _ _ _ h _ => h), (fun _ _ _ h _ => h), (fun _ _ _ h _ => h), vIs_st, vIs_st, vIs_st, vIs_st, vIs_st, vIs_st, vIs_st, vIs_st, vIs_st, vIs_st, vIs_st, vIs_st, vIs_st, vIs_st, vIs_st, vIs_st, vIs_st, (fun _ _ _ h _ => h), trivial⟩) ⟨HW7.out.1.drew, HW7.out.2.1, HW7.out.2.2.1, HW7.out.2.2.2.1, HW7.out.2.2.2.2.1⟩ ?_ ?_)
     ·refine ⟨?_, ?_, ?_, ?_, ?_, ?_, ?_, ?_, ?_, ?_, ?_, ?_, ?_, ?_, ?_, ?_, ?_, ?_, ?_, ?_, ?_, ?_, ?_, ?_, ?_, ?_, ?_, ?_, ?_, ?_, ?_, ?_, ?_, ?_, ?_, trivial⟩
      ·intro a W hG hO hp; have h10 := hO.slot 10 (by kernel_rfl); refine wp_yields (v := .pointer (some ⟨gx, 0, none⟩)) ?_ ⟨_, rfl, rfl, Below.refl _ _, hG⟩; simp [slotOf] at h10; simp [execOp, go_sem, h10]
      ·intro a W hG hO hp; have h39 : slotOf a 39 = .pointer (some ⟨gx, 0, none⟩) := hp.1; have c0 := hG.2.1.at 0 (v := vi p.x.lo) rfl; refine wp_yields (v := vi p.x.lo) ?_ ⟨_, rfl, rfl, Below.refl _ _, hG⟩; simp [slotOf] at h39; simp [execOp, go_sem, h39, c0]
      ·intro a W hG hO hp; have h12 := hO.slot 12 (by kernel_rfl); refine wp_yields (v := .pointer (some ⟨gm, 0, none⟩)) ?_ ⟨_, rfl, rfl, Below.refl _ _, hG⟩; simp [slotOf] at h12; simp [execOp, go_sem, h12]
      ·intro a W hG hO hp; have h41 : slotOf a 41 = .pointer (some ⟨gm, 0, none⟩) := hp.1; have c0 := hG.2.2.2.1.at 0 (v := vi m0.1) rfl; refine wp_yields (v := vi m0.1) ?_ ⟨_, rfl, rfl, Below.refl _ _, hG⟩; simp [slotOf] at h41; simp [execOp, go_sem, h41, c0]
      ·intro a W hG hO hp; have h3 := hO.slot 3 (by kernel_rfl); refine wp_yields (v := .pointer (some ⟨w.heap.size, 1, none⟩)) ?_ ⟨_, rfl, rfl, Below.refl _ _, hG⟩; simp [slotOf] at h3; simp [execOp, go_sem, h3]
      ·intro a W hG hO hp; have h43 : slotOf a 43 = .pointer (some ⟨w.heap.size, 1, none⟩) := hp.1; have c0 := hG.2.2.2.2.at 1 (v := vi y.s.strain) rfl; refine wp_yields (v := vi y.s.strain) ?_ ⟨_, rfl, rfl, Below.refl _ _, hG⟩; simp [slotOf] at h43; simp [execOp, go_sem, h43, c0]
      ·intro a W hG hO hp; have h42 : slotOf a 42 = vi m0.1 := hp.1; have h44 : slotOf a 44 = vi y.s.strain := hp.2.1; refine wp_yields (v := vi (m0.1 - y.s.strain)) ?_ ⟨_, rfl, rfl, Below.refl _ _, hG⟩; simp [slotOf] at h42 h44; simp [execOp, go_sem, h42, h44, ew1]
      ·intro a W hG hO hp; have h40 : slotOf a 40 = vi p.x.lo := hp.1; have h45 : slotOf a 45 = vi (m0.1 - y.s.strain) := hp.2.1; refine wp_yields (v := vi q.x.lo) ?_ ⟨_, rfl, rfl, Below.refl _ _, hG⟩; simp [slotOf] at h40 h45; simp [go_sem, h40, h45, eq1, mxI]
      ·intro a W hG hO hp; have h10 := hO.slot 10 (by kernel_rfl); refine wp_yields (v := .pointer (some ⟨gx, 1, none⟩)) ?_ ⟨_, rfl, rfl, Below.refl _ _, hG⟩; simp [slotOf] at h10; simp [execOp, go_sem, h10]
      ·intro a W hG hO hp; have h47 : slotOf a 47 = .pointer (some ⟨gx, 1, none⟩) := hp.1; have c0 := hG.2.1.at 1 (v := vi p.x.hi) rfl; refine wp_yields (v := vi p.x.hi) ?_ ⟨_, rfl, rfl, Below.refl _ _, hG⟩; simp [slotOf] at h47; simp [execOp, go_sem, h47, c0]
      ·intro a W hG hO hp; have h12 := hO.slot 12 (by kernel_rfl); refine wp_yields (v := .pointer (some ⟨gm, 0, none⟩)) ?_ ⟨_, rfl, rfl, Below.refl _ _, hG⟩; simp [slotOf] at h12; simp [execOp, go_sem, h12]
      ·intro a W hG hO hp; have h49 : slotOf a 49 = .pointer (some ⟨gm, 0, none⟩) := hp.1; have c0 := hG.2.2.2.1.at 0 (v := vi m0.1) rfl; refine wp_yields (v := vi m0.1) ?_ ⟨_, rfl, rfl, Below.refl _ _, hG⟩; simp [slotOf] at h49; simp [execOp, go_sem, h49, c0]
      ·intro a W hG hO hp; have h3 := hO.slot 3 (by kernel_rfl); refine wp_yields (v := .pointer (some ⟨w.heap.size, 1, none⟩)) ?_ ⟨_, rfl, rfl, Below.refl _ _, hG⟩; simp [slotOf] at h3; simp [execOp, go_sem, h3]
      ·intro a W hG hO hp; have h51 : slotOf a 51 = .pointer (some ⟨w.heap.size, 1, none⟩) := hp.1; have c0 := hG.2.2.2.2.at 1 (v := vi y.s.strain) rfl; refine wp_yields (v := vi y.s.strain) ?_ ⟨_, rfl, rfl, Below.refl _ _, hG⟩; simp [slotOf] at h51; simp [execOp, go_sem, h51, c0]
      ·intro a W hG hO hp; have h50 : slotOf a 50 = vi m0.1 := hp.1; have h52 : slotOf a 52 = vi y.s.strain := hp.2.1; refine wp_yields (v := vi (m0.1 + y.s.strain)) ?_ ⟨_, rfl, rfl, Below.refl _ _, hG⟩; simp [slotOf] at h50 h52; simp [execOp, go_sem, h50, h52, ew2]
      ·intro a W hG hO hp; have h48 : slotOf a 48 = vi p.x.hi := hp.1; have h53 : slotOf a 53 = vi (m0.1 + y.s.strain) := hp.2.1; refine wp_yields (v := vi q.x.hi) ?_ ⟨_, rfl, rfl, Below.refl _ _, hG⟩; simp [slotOf] at h48 h53; simp [go_sem, h48, h53, eq2, mnI]
      ·intro a W hG hO hp; have h46 : slotOf a 46 = vi q.x.lo := hp.1; have h54 : slotOf a 54 = vi q.x.hi := hp.2.1; refine wp_yields (v := rgV q.x) ?_ ⟨_, rfl, rfl, Below.refl _ _, hG⟩; simp [slotOf] at h46 h54; simp [execOp, go_sem, h46, h54]
      ·intro b a W hG hO hp
       have h11 := hO.slot 11 (by kernel_rfl)
       refine wp_yields (v := .pointer (some ⟨gy, 0, none⟩)) ?_ ⟨_, rfl, (by cases b <;> rfl), Below.refl _ _, hG⟩
       simp [slotOf] at h11
       simp [execOp, go_sem, h11]
      ·intro b a W hG hO hp
       have h56 : slotOf a 56 = .pointer (some ⟨gy, 0, none⟩) := by cases b <;> exact hp.1
       have c0 := hG.2.2.1.at 0 (v := vi p.y.lo) rfl
       refine wp_yields (v := vi p.y.lo) ?_ ⟨_, rfl, (by cases b <;> rfl), Below.refl _ _, hG⟩
       simp [slotOf] at h56
       simp [execOp, go_sem, h56, c0]
      ·intro b a W hG hO hp
       have h12 := hO.slot 12 (by kernel_rfl)
       refine wp_yields (v := .pointer (some ⟨gm, 1, none⟩)) ?_ ⟨_, rfl, (by cases b <;> rfl), Below.refl _ _, hG⟩
       simp [slotOf] at h12
       simp [execOp, go_sem, h12]
      ·intro b a W hG hO hp
       have h58 : slotOf a 58 = .pointer (some ⟨gm, 1, none⟩) := by cases b <;> exact hp.1
       have c0 := hG.2.2.2.1.at 1 (v := vi m0.2) rfl
       refine wp_yields (v := vi m0.2) ?_ ⟨_, rfl, (by cases b <;> rfl), Below.refl _ _, hG⟩
       simp [slotOf] at h58
       simp [execOp, go_sem, h58, c0]
      ·intro b a W hG hO hp
       have h3 := hO.slot 3 (by kernel_rfl)
       refine wp_yields (v := .pointer (some ⟨w.heap.size, 1, none⟩)) ?_ ⟨_, rfl, (by cases b <;> rfl), Below.refl _ _, hG⟩
       simp [slotOf] at h3
       simp [execOp, go_sem, h3]
      ·intro b a W hG hO hp
       have h60 : slotOf a 60 = .pointer (some ⟨w.heap.size, 1, none⟩) := by cases b <;> exact hp.1
       have c0 := hG.2.2.2.2.at 1 (v := vi y.s.strain) rfl
       refine wp_yields (v := vi y.s.strain) ?_ ⟨_, rfl, (by cases b <;> rfl), Below.refl _ _, hG⟩
       simp [slotOf] at h60
       simp [execOp, go_sem, h60, c0]
      ·intro b a W hG hO hp
       have h59 : slotOf a 59 = vi m0.2 := by cases b <;> exact hp.1
       have h61 : slotOf a 61 = vi y.s.strain := by cases b <;> exact hp.2.1
       refine wp_yields (v := vi (m0.2 - y.s.strain)) ?_ ⟨_, rfl, (by cases b <;> rfl), Below.refl _ _, hG⟩
       simp [slotOf] at h59 h61
       simp [execOp, go_sem, h59, h61, ew3]
      ·intro b a W hG hO hp
       have h57 : slotOf a 57 = vi p.y.lo := by cases b <;> exact hp.1
       have h62 : slotOf a 62 = vi (m0.2 - y.s.strain) := by cases b <;> exact hp.2.1
       refine wp_yields (v := vi q.y.lo) ?_ ⟨_, rfl, (by cases b <;> rfl), Below.refl _ _, hG⟩
       simp [slotOf] at h57 h62
       simp [go_sem, h57, h62, eq3, mxI]
      ·intro b a W hG hO hp
       have h11 := hO.slot 11 (by kernel_rfl)
       refine wp_yields (v := .pointer (some ⟨gy, 1, none⟩)) ?_ ⟨_, rfl, (by cases b <;> rfl), Below.refl _ _, hG⟩
       simp [slotOf] at h11
       simp [execOp, go_sem, h11]
      ·intro b a W hG hO hp
       have h64 : slotOf a 64 = .pointer (some ⟨gy, 1, none⟩) := by cases b <;> exact hp.1
       have c0 := hG.2.2.1.at 1 (v := vi p.y.hi) rfl
       refine wp_yields (v := vi p.y.hi) ?_ ⟨_, rfl, (by cases b <;> rfl), Below.refl _ _, hG⟩
       simp [slotOf] at h64
       simp [execOp, go_sem, h64, c0]
      ·intro b a W hG hO hp
       have h12 := hO.slot 12 (by kernel_rfl)
       refine wp_yields (v := .pointer (some ⟨gm, 1, none⟩)) ?_ ⟨_, rfl, (by cases b <;> rfl), Below.refl _ _, hG⟩
       simp [slotOf] at h12
       simp [execOp, go_sem, h12]
      ·intro b a W hG hO hp
       have h66 : slotOf a 66 = .pointer (some ⟨gm, 1, none⟩) := by cases b <;> exact hp.1
       have c0 := hG.2.2.2.1.at 1 (v := vi m0.2) rfl
       refine wp_yields (v := vi m0.2) ?_ ⟨_, rfl, (by cases b <;> rfl), Below.refl _ _, hG⟩
       simp [slotOf] at h66
       simp [execOp, go_sem, h66, c0]
      ·intro b a W hG hO hp
       have h3 := hO.slot 3 (by kernel_rfl)
       refine wp_yields (v := .pointer (some ⟨w.heap.size, 1, none⟩)) ?_ ⟨_, rfl, (by cases b <;> rfl), Below.refl _ _, hG⟩
       simp [slotOf] at h3
       simp [execOp, go_sem, h3]
      ·intro b a W hG hO hp
       have h68 : slotOf a 68 = .pointer (some ⟨w.heap.size, 1, none⟩) := by cases b <;> exact hp.1
       have c0 := hG.2.2.2.2.at 1 (v := vi y.s.strain) rfl
       refine wp_yields (v := vi y.s.strain) ?_ ⟨_, rfl, (by cases b <;> rfl), Below.refl _ _, hG⟩
       simp [slotOf] at h68
       simp [execOp, go_sem, h68, c0]
      ·intro b a W hG hO hp
       have h67 : slotOf a 67 = vi m0.2 := by cases b <;> exact hp.1
       have h69 : slotOf a 69 = vi y.s.strain := by cases b <;> exact hp.2.1
       refine wp_yields (v := vi (m0.2 + y.s.strain)) ?_ ⟨_, rfl, (by cases b <;> rfl), Below.refl _ _, hG⟩
       simp [slotOf] at h67 h69
       simp [execOp, go_sem, h67, h69, ew4]
      ·intro b a W hG hO hp
       have h65 : slotOf a 65 = vi p.y.hi := by cases b <;> exact hp.1
       have h70 : slotOf a 70 = vi (m0.2 + y.s.strain) := by cases b <;> exact hp.2.1
       refine wp_yields (v := vi q.y.hi) ?_ ⟨_, rfl, (by cases b <;> rfl), Below.refl _ _, hG⟩
       simp [slotOf] at h65 h70
       simp [go_sem, h65, h70, eq4, mnI]
      ·intro b a W hG hO hp
       have h63 : slotOf a 63 = vi q.y.lo := by cases b <;> exact hp.1
       have h71 : slotOf a 71 = vi q.y.hi := by cases b <;> exact hp.2.1
       refine wp_yields (v := rgV q.y) ?_ ⟨_, rfl, (by cases b <;> rfl), Below.refl _ _, hG⟩
       simp [slotOf] at h63 h71
       simp [execOp, go_sem, h63, h71]
      ·intro a W hG hO hp
       have h55 : slotOf a 55 = rgV q.x := hp.1
       have h10 := hO.slot 10 (by kernel_rfl)
       have b0 := hG.2.1.at 0 rfl
       have b1 := hG.2.1.at 1 rfl
       have f0 := hG.2.1.free 0
       have f1 := hG.2.1.free 1
       simp [slotOf] at h10 h55
       refine wp_storesE (W' := (W.setCell ⟨gx, 0, none⟩ (vi q.x.lo)).setCell ⟨gx, 1, none⟩ (vi q.x.hi)) (by simp [execOp, go_sem, h10, h55, b0, b1, f0, f1]) ⟨rfl, ⟨(hG.1.setCell (p := ⟨gx, 0, none⟩) HGX.out.1 _).setCell (p := ⟨gx, 1, none⟩) HGX.out.1 _, (hG.2.1.set 0 _).set 1 _, (hG.2.2.1.far (p := ⟨gx, 0, none⟩) (Ne.symm HNE.out.1) _).far (p := ⟨gx, 1, none⟩) (Ne.symm HNE.out.1) _, (hG.2.2.2.1.far (p := ⟨gx, 0, none⟩) (Ne.symm HNE.out.2.1) _).far (p := ⟨gx, 1, none⟩) (Ne.symm HNE.out.2.1) _, (hG.2.2.2.2.far (p := ⟨gx, 0, none⟩) (Ne.symm HNE.out.2.2) _).far (p := ⟨gx, 1, none⟩) (Ne.symm HNE.out.2.2) _⟩, ?_⟩
       intro j oj d hj hoj hd hD
       match j, hoj, hD with
       | 0, _, _ => trivial
       | 1, _, _ => trivial
       | 2, _, _ => trivial
       | 3, _, _ => trivial
       | 4, _, _ => trivial
       | 5, _, _ => trivial
       | 6, _, _ => trivial
       | 7, _, _ => trivial
       | 8, _, _ => trivial
       | 9, _, _ => trivial
       | 10, _, _ => trivial
       | 11, _, _ => trivial
       | 12, _, _ => trivial
       | 13, _, _ => trivial
       | 14, _, _ => trivial
       | 15, _, _ => trivial
       | 16, _, _ => trivial
       | 17, _, hD =>
        exact hD
       | 18, _, hD =>
        exact hD
       | 19, _, hD =>
        exact hD
       | 20, _, hD =>
        exact hD
       | 21, _, hD =>
        exact hD
       | 22, _, hD =>
        exact hD
       | 23, _, hD =>
        exact hD
       | 24, _, hD =>
        exact hD
       | 25, _, hD =>
        exact hD
       | 26, _, hD =>
        exact hD
       | 27, _, hD =>
        exact hD
       | 28, _, hD =>
        exact hD
       | 29, _, hD =>
        exact hD
       | 30, _, hD =>
        exact hD
       | 31, _, hD =>
        exact hD
       | 32, _, hD =>
        exact hD
       | 33, _, hD =>
        exact hD
       | 34, _, _ => trivial
       | (_ + 35), _, _ => omega
     ·intro w8 hG
      rintro _ - _ - _ - _ - _ - _ - _ - _ - _ - _ - _ - _ - _ - _ - _ - _ - _ - _ rfl _ rfl _ rfl _ rfl _ rfl _ rfl _ rfl _ rfl _ rfl _ rfl _ rfl _ rfl _ rfl _ rfl _ rfl _ rfl _ rfl
      change wpList _ _ _ _ _ _
      simp only [Act.put, List.setIfInBounds_toArray, List.set_cons_zero, List.set_cons_succ, List.drop_succ_cons, List.drop_zero]
      have a2 := hG.2.2.1.at 0 rfl
      have a3 := hG.2.2.1.at 1 rfl
      have f2 := hG.2.2.1.free 0
      have f3 := hG.2.2.1.free 1
      have HW8 := Lib.hid hG
      clear hG HW7 eq1 eq2 eq3 eq4 u0 u1 u2 u3 k0 k1 x1 ew1 ew2 ew3 ew4 hgxw hgxm
      go_upto_region 9 with fail
      refine genQ (fun X => newer wr X ∧ Whole X gx 71 #[vi q.x.lo, vi q.x.hi] ∧ Whole X gy 71 #[vi q.y.lo, vi q.y.hi]) ⟨(HW8.out.1.setCell (p := ⟨gy, 0, none⟩) HGX.out.2 _).setCell (p := ⟨gy, 1, none⟩) HGX.out.2 _, (HW8.out.2.1.far (p := ⟨gy, 0, none⟩) HNE.out.1 _).far (p := ⟨gy, 1, none⟩) HNE.out.1 _, (HW8.out.2.2.1.set 0 _).set 1 _⟩ ?_
      clear a2 a3 f2 f3 HW8
      rintro w9 ⟨hn9, hx9, hy9⟩
      have HQQ := HQQ0
      have HOW := Lib.hid (And.intro (own_below HJ.out.1 hn9) (newer_trans HJ.out.2 hn9))
      have HXN := Lib.hid (And.intro (show some gx ≠ (Value.slice A i c).ownBlock from (own_ne (own_below HJ.out.1 hn9) hx9 (by decide)).symm) (show some gy ≠ (Value.slice A i c).ownBlock from (own_ne (own_below HJ.out.1 hn9) hy9 (by decide)).symm))
      have u0 := hx9.at 0 (v := vi q.x.lo) rfl
      have u1 := hx9.at 1 (v := vi q.x.hi) rfl
      have u2 := hy9.at 0 (v := vi q.y.lo) rfl
      have u3 := hy9.at 1 (v := vi q.y.hi) rfl
      have HN9 := Lib.hid hn9
      have HLT := Lib.hid (And.intro hx9.lt hy9.lt)
      clear hn9 hx9 hy9 HQQ0
      by_cases hc : q.x.hi < q.x.lo
      case pos =>
       have HNO := Lib.hid (show movedK y.s (fun i => wordK ws (fr + i)) y.s.spots.length = none from movedK_stop (by have := HIN.out; omega) HT.out HPP.out HQQ.out (.inl hc))
       go_wp2_with fail
       exact bodyPost_ret (v := .tuple #[.slice none 0 0, .bool false]) (by simp [results, Try.results20, go_sem]) rfl (show MovedR y (fun i => wordK ws (fr + i)) w _ _ from .inr ⟨HNO.out, rfl, newer_trans HJ.out.2 HN9.out⟩)
      case neg =>
       by_cases hd : q.y.hi < q.y.lo
       case pos =>
        have HNO := Lib.hid (show movedK y.s (fun i => wordK ws (fr + i)) y.s.spots.length = none from movedK_stop (by have := HIN.out; omega) HT.out HPP.out HQQ.out (.inr hd))
        go_wp2_with fail
        exact bodyPost_ret (v := .tuple #[.slice none 0 0, .bool false]) (by simp [results, Try.results20, go_sem]) rfl (show MovedR y (fun i => wordK ws (fr + i)) w _ _ from .inr ⟨HNO.out, rfl, newer_trans HJ.out.2 HN9.out⟩)
       case neg =>
        have hqb := ranges_bdM HSD.out HPP.out HFI.out HIN.out HQQ.out
        obtain ⟨m, hm⟩ : ∃ m : Mv, m = (mvN q.x.lo q.x.hi (wordK ws (fr + 2 * i)), mvN q.y.lo q.y.hi (wordK ws (fr + 2 * i + 1))) := ⟨_, rfl⟩
        have HGO := Lib.hid (show movedK y.s (fun i => wordK ws (fr + i)) (i + 1) = some (f ++ [m]) from by rw [hm]; exact movedK_go HT.out HPP.out HQQ.out hc hd)
        have hfr2 := hfr
        have ei2 : IntKind.i64.wrap (2 * (i : Int)) = 2 * i := IntWalk.i64_in _ (by omega)
        have ei4 : IntKind.i64.wrap ((fr : Int) + 2 * i) = fr + 2 * i := IntWalk.i64_in _ (by omega)
        have ei5 : IntKind.i64.wrap ((fr : Int) + 2 * i + 1) = fr + 2 * i + 1 := IntWalk.i64_in _ (by omega)
        obtain ⟨k1, hk1⟩ : ∃ k, k = wordK ws (fr + 2 * i) := ⟨_, rfl⟩
        obtain ⟨k2, hk2⟩ : ∃ k, k = wordK ws (fr + 2 * i + 1) := ⟨_, rfl⟩
        have hkb1 := wordK_bd ws (fr + 2 * i)
        have hkb2 := wordK_bd ws (fr + 2 * i + 1)
        rw [← hk1] at hkb1
        rw [← hk2] at hkb2
        have HP1 : Hid (∀ W, newer w W → Calls Try.prog 24 #[.slice B ws.length bc, vi (fr + 2 * i)] W fun e w' => e = .returned (vi k1) ∧ newer W w') := Lib.hid (fun W hW => by
         have h := word_any ws B bc (fr + 2 * i) W HWL.out (by omega) ((HR.out.below hW).more hW.size)
         rw [show ((fr + 2 * i : Nat) : Int) = (fr : Int) + 2 * (i : Int) by omega] at h
         rw [hk1]
         exact h)
        have HP2 : Hid (∀ W, newer w W → Calls Try.prog 24 #[.slice B ws.length bc, vi (fr + 2 * i + 1)] W fun e w' => e = .returned (vi k2) ∧ newer W w') := Lib.hid (fun W hW => by
         have h := word_any ws B bc (fr + 2 * i + 1) W HWL.out (by omega) ((HR.out.below hW).more hW.size)
         rw [show ((fr + 2 * i + 1 : Nat) : Int) = (fr : Int) + 2 * (i : Int) + 1 by omega] at h
         rw [hk2]
         exact h)
        obtain ⟨r1, hr1⟩ : ∃ r, r = k1 % (q.x.hi - q.x.lo + 1) := ⟨_, rfl⟩
        obtain ⟨r2, hr2⟩ : ∃ r, r = k2 % (q.y.hi - q.y.lo + 1) := ⟨_, rfl⟩
        have er1 : k1.tmod (q.x.hi - q.x.lo + 1) = r1 := by rw [hr1, Int.tmod_eq_emod_of_nonneg hkb1.1]
        have er2 : k2.tmod (q.y.hi - q.y.lo + 1) = r2 := by rw [hr2, Int.tmod_eq_emod_of_nonneg hkb2.1]
        have hm1 : m.1 = q.x.lo + r1 := by rw [hm, hr1, hk1]; rfl
        have hm2 : m.2 = q.y.lo + r2 := by rw [hm, hr2, hk2]; rfl
        have hr1b : 0 ≤ r1 ∧ r1 < q.x.hi - q.x.lo + 1 := by rw [hr1]; exact ⟨Int.emod_nonneg _ (by omega), Int.emod_lt_of_pos _ (by omega)⟩
        have hr2b : 0 ≤ r2 ∧ r2 < q.y.hi - q.y.lo + 1 := by rw [hr2]; exact ⟨Int.emod_nonneg _ (by omega), Int.emod_lt_of_pos _ (by omega)⟩
        have es1 : IntKind.i64.wrap (q.x.hi - q.x.lo) = q.x.hi - q.x.lo := IntWalk.i64_in _ (by omega)
        have et1 : IntKind.i64.wrap (q.x.hi - q.x.lo + 1) = q.x.hi - q.x.lo + 1 := IntWalk.i64_in _ (by omega)
        have es2 : IntKind.i64.wrap (q.y.hi - q.y.lo) = q.y.hi - q.y.lo := IntWalk.i64_in _ (by omega)
        have et2 : IntKind.i64.wrap (q.y.hi - q.y.lo + 1) = q.y.hi - q.y.lo + 1 := IntWalk.i64_in _ (by omega)
        have ez1 : ¬ (q.x.hi - q.x.lo + 1 = 0) := by omega
        have ez2 : ¬ (q.y.hi - q.y.lo + 1 = 0) := by omega
        have ea1 : IntKind.i64.wrap (q.x.lo + r1) = m.1 := by rw [hm1]; exact IntWalk.i64_in _ (by omega)
        have ea2 : IntKind.i64.wrap (q.y.lo + r2) = m.2 := by rw [hm2]; exact IntWalk.i64_in _ (by omega)
        have HFEW := Lib.hid (show i < 1000 by omega)
        have HSZ := Lib.hid (newer_trans HB1N.out HN9.out).size
        have HNW := Lib.hid (own_lt HOW.out.1)
        clear hqb hm hm1 hm2 hr1 hr2 hk1 hk2
        go_upto_region 11 with fail
        refine wp_words (by kernel_rfl) (region_tale 37 (by kernel_rfl) (by kernel_rfl) 36 (fun W => w9.grownBy W (Value.slice A i c).ownBlock) (fun W => W.ownsRow (w1.heap.size) 47 2 (.slice A i c) i (f.flatMap mvL) ∧ newer w9 W) (relAt 36 (fun W W' => W.grownBy W' (Value.slice A i c).ownBlock)) (pickD [vIs (.slice A i c), vIs (.pointer (some ⟨gx, 0, none⟩)), vIs (vi q.x.lo), vIs (.slice B ws.length bc), vIs (vi fr), vIs (vi i), vIs (vi (2 * i)), vIs (vi (fr + 2 * i)), vIs (vi k1), vIs (.pointer (some ⟨gx, 1, none⟩)), vIs (vi q.x.hi), vIs (.pointer (some ⟨gx, 0, none⟩)), vIs (vi q.x.lo), vIs (vi (q.x.hi - q.x.lo)), vIs (vi (q.x.hi - q.x.lo + 1)), vIs (vi r1), vIs (vi m.1), vIs (.pointer (some ⟨gy, 0, none⟩)), vIs (vi q.y.lo), vIs (.slice B ws.length bc), vIs (vi fr), vIs (vi i), vIs (vi (2 * i)), vIs (vi (fr + 2 * i)), vIs (vi (fr + 2 * i + 1)), vIs (vi k2), vIs (.pointer (some ⟨gy, 1, none⟩)), vIs (vi q.y.hi), vIs (.pointer (some ⟨gy, 0, none⟩)), vIs (vi q.y.lo), vIs (vi (q.y.hi - q.y.lo)), vIs (vi (q.y.hi - q.y.lo + 1)), vIs (vi r2), vIs (vi m.2), vIs (mvV m), vOne w9.heap.size 47 #[vi m.1, vi m.2], vOwnV w1.heap.size 47 2 (i + 1) (f.flatMap mvL ++ [m].flatMap mvL)]) (allBut_ok (fun _ _ h => grown_of_newer h _) _ ⟨vIs_st, vIs_st, vIs_st, vIs_st, vIs_st, vIs_st, vIs_st, vIs_st, vIs_st, vIs_st, vIs_st, vIs_st, vIs_st, vIs_st, vIs_st, vIs_st, vIs_st, vIs_st, vIs_st, vIs_st, vIs_st, vIs_st, vIs_st, vIs_st, vIs_st, vIs_st, vIs_st, vIs_st, vIs_st, vIs_st, vIs_st, vIs_st, vIs_st, vIs_st, vIs_st, vOne_grown HNW.out, vOwnV_st, trivial⟩) (by decide) (grown_drew (grown_refl _ _)) ⟨HOW.out.1, (Below.refl _ _).drew⟩ ?_ ?_)
        ·refine ⟨?_, ?_, ?_, ?_, ?_, ?_, ?_, ?_, ?_, ?_, ?_, ?_, ?_, ?_, ?_, ?_, ?_, ?_, ?_, ?_, ?_, ?_, ?_, ?_, ?_, ?_, ?_, ?_, ?_, ?_, ?_, ?_, ?_, ?_, ?_, ?_, ?_, trivial⟩
         ·intro a W hG hG1 hO hp; have h8 := hO.slot 8 (by kernel_rfl); refine wp_yields (v := .slice A i c) ?_ ⟨_, rfl, rfl, newer_refl _, hG, fun _ h => h⟩; simp [slotOf] at h8; simp [execOp, go_sem, h8]
         ·intro a W hG hG1 hO hp; have h10 := hO.slot 10 (by kernel_rfl); refine wp_yields (v := .pointer (some ⟨gx, 0, none⟩)) ?_ ⟨_, rfl, rfl, newer_refl _, hG, fun _ h => h⟩; simp [slotOf] at h10; simp [execOp, go_sem, h10]
         ·intro a W hG hG1 hO hp; have h86 : slotOf a 86 = .pointer (some ⟨gx, 0, none⟩) := hp.1; have c0 := hG.cell u0 HXN.out.1; refine wp_yields (v := vi q.x.lo) ?_ ⟨_, rfl, rfl, newer_refl _, hG, fun _ h => h⟩; simp [slotOf] at h86; simp [execOp, go_sem, h86, c0]
         ·intro a W hG hG1 hO hp; have h1 := hO.slot 1 (by kernel_rfl); refine wp_yields (v := .slice B ws.length bc) ?_ ⟨_, rfl, rfl, newer_refl _, hG, fun _ h => h⟩; simp [slotOf] at h1; simp [execOp, go_sem, h1]
         ·intro a W hG hG1 hO hp; have h2 := hO.slot 2 (by kernel_rfl); refine wp_yields (v := vi fr) ?_ ⟨_, rfl, rfl, newer_refl _, hG, fun _ h => h⟩; simp [slotOf] at h2; simp [execOp, go_sem, h2]
         ·intro a W hG hG1 hO hp; have h9 := hO.slot 9 (by kernel_rfl); refine wp_yields (v := vi i) ?_ ⟨_, rfl, rfl, newer_refl _, hG, fun _ h => h⟩; simp [slotOf] at h9; simp [execOp, go_sem, h9]
         ·intro a W hG hG1 hO hp; have h90 : slotOf a 90 = vi i := hp.1; refine wp_yields (v := vi (2 * i)) ?_ ⟨_, rfl, rfl, newer_refl _, hG, fun _ h => h⟩; simp [slotOf] at h90; simp [execOp, go_sem, h90, ei2]
         ·intro a W hG hG1 hO hp; have h89 : slotOf a 89 = vi fr := hp.1; have h91 : slotOf a 91 = vi (2 * i) := hp.2.1; refine wp_yields (v := vi (fr + 2 * i)) ?_ ⟨_, rfl, rfl, newer_refl _, hG, fun _ h => h⟩; simp [slotOf] at h89 h91; simp [execOp, go_sem, h89, h91, ei4]
         ·intro a W hG hG1 hO hp
          have h88 : slotOf a 88 = .slice B ws.length bc := hp.1
          have h92 : slotOf a 92 = vi (fr + 2 * i) := hp.2.1
          refine wp_enters (f := 24) (args := #[.slice B ws.length bc, vi (fr + 2 * i)]) ?_ ((HP1.out W (below_row HOW.out.2 HOW.out.1 hG HB1.out.1.size)).mono ?_)
          ·simp [slotOf] at h88 h92
           simp [go_sem, h88, h92]
          ·rintro e w' ⟨rfl, hb⟩
           exact ⟨_, rfl, _, rfl, rfl, hb, grown_below hG hb, fun _ h => ⟨own_below h.1 hb, newer_trans h.2 hb⟩⟩
         ·intro a W hG hG1 hO hp; have h10 := hO.slot 10 (by kernel_rfl); refine wp_yields (v := .pointer (some ⟨gx, 1, none⟩)) ?_ ⟨_, rfl, rfl, newer_refl _, hG, fun _ h => h⟩; simp [slotOf] at h10; simp [execOp, go_sem, h10]
         ·intro a W hG hG1 hO hp; have h94 : slotOf a 94 = .pointer (some ⟨gx, 1, none⟩) := hp.1; have c0 := hG.cell u1 HXN.out.1; refine wp_yields (v := vi q.x.hi) ?_ ⟨_, rfl, rfl, newer_refl _, hG, fun _ h => h⟩; simp [slotOf] at h94; simp [execOp, go_sem, h94, c0]
         ·intro a W hG hG1 hO hp; have h10 := hO.slot 10 (by kernel_rfl); refine wp_yields (v := .pointer (some ⟨gx, 0, none⟩)) ?_ ⟨_, rfl, rfl, newer_refl _, hG, fun _ h => h⟩; simp [slotOf] at h10; simp [execOp, go_sem, h10]
         ·intro a W hG hG1 hO hp; have h96 : slotOf a 96 = .pointer (some ⟨gx, 0, none⟩) := hp.1; have c0 := hG.cell u0 HXN.out.1; refine wp_yields (v := vi q.x.lo) ?_ ⟨_, rfl, rfl, newer_refl _, hG, fun _ h => h⟩; simp [slotOf] at h96; simp [execOp, go_sem, h96, c0]
         ·intro a W hG hG1 hO hp; have h95 : slotOf a 95 = vi q.x.hi := hp.1; have h97 : slotOf a 97 = vi q.x.lo := hp.2.1; refine wp_yields (v := vi (q.x.hi - q.x.lo)) ?_ ⟨_, rfl, rfl, newer_refl _, hG, fun _ h => h⟩; simp [slotOf] at h95 h97; simp [execOp, go_sem, h95, h97, es1]
         ·intro a W hG hG1 hO hp; have h98 : slotOf a 98 = vi (q.x.hi - q.x.lo) := hp.1; refine wp_yields (v := vi (q.x.hi - q.x.lo + 1)) ?_ ⟨_, rfl, rfl, newer_refl _, hG, fun _ h => h⟩; simp [slotOf] at h98; simp [execOp, go_sem, h98, et1]
         ·intro a W hG hG1 hO hp; have h93 : slotOf a 93 = vi k1 := hp.1; have h99 : slotOf a 99 = vi (q.x.hi - q.x.lo + 1) := hp.2.1; refine wp_yields (v := vi r1) ?_ ⟨_, rfl, rfl, newer_refl _, hG, fun _ h => h⟩; simp [slotOf] at h93 h99; simp [execOp, go_sem, h93, h99, er1, ez1]
         ·intro a W hG hG1 hO hp; have h87 : slotOf a 87 = vi q.x.lo := hp.1; have h100 : slotOf a 100 = vi r1 := hp.2.1; refine wp_yields (v := vi m.1) ?_ ⟨_, rfl, rfl, newer_refl _, hG, fun _ h => h⟩; simp [slotOf] at h87 h100; simp [execOp, go_sem, h87, h100, ea1]
         ·intro a W hG hG1 hO hp; have h11 := hO.slot 11 (by kernel_rfl); refine wp_yields (v := .pointer (some ⟨gy, 0, none⟩)) ?_ ⟨_, rfl, rfl, newer_refl _, hG, fun _ h => h⟩; simp [slotOf] at h11; simp [execOp, go_sem, h11]
         ·intro a W hG hG1 hO hp; have h102 : slotOf a 102 = .pointer (some ⟨gy, 0, none⟩) := hp.1; have c0 := hG.cell u2 HXN.out.2; refine wp_yields (v := vi q.y.lo) ?_ ⟨_, rfl, rfl, newer_refl _, hG, fun _ h => h⟩; simp [slotOf] at h102; simp [execOp, go_sem, h102, c0]
         ·intro a W hG hG1 hO hp; have h1 := hO.slot 1 (by kernel_rfl); refine wp_yields (v := .slice B ws.length bc) ?_ ⟨_, rfl, rfl, newer_refl _, hG, fun _ h => h⟩; simp [slotOf] at h1; simp [execOp, go_sem, h1]
         ·intro a W hG hG1 hO hp; have h2 := hO.slot 2 (by kernel_rfl); refine wp_yields (v := vi fr) ?_ ⟨_, rfl, rfl, newer_refl _, hG, fun _ h => h⟩; simp [slotOf] at h2; simp [execOp, go_sem, h2]
         ·intro a W hG hG1 hO hp; have h9 := hO.slot 9 (by kernel_rfl); refine wp_yields (v := vi i) ?_ ⟨_, rfl, rfl, newer_refl _, hG, fun _ h => h⟩; simp [slotOf] at h9; simp [execOp, go_sem, h9]
         ·intro a W hG hG1 hO hp; have h106 : slotOf a 106 = vi i := hp.1; refine wp_yields (v := vi (2 * i)) ?_ ⟨_, rfl, rfl, newer_refl _, hG, fun _ h => h⟩; simp [slotOf] at h106; simp [execOp, go_sem, h106, ei2]
         ·intro a W hG hG1 hO hp; have h105 : slotOf a 105 = vi fr := hp.1; have h107 : slotOf a 107 = vi (2 * i) := hp.2.1; refine wp_yields (v := vi (fr + 2 * i)) ?_ ⟨_, rfl, rfl, newer_refl _, hG, fun _ h => h⟩; simp [slotOf] at h105 h107; simp [execOp, go_sem, h105, h107, ei4]
         ·intro a W hG hG1 hO hp; have h108 : slotOf a 108 = vi (fr + 2 * i) := hp.1; refine wp_yields (v := vi (fr + 2 * i + 1)) ?_ ⟨_, rfl, rfl, newer_refl _, hG, fun _ h => h⟩; simp [slotOf] at h108; simp [execOp, go_sem, h108, ei5]
         ·intro a W hG hG1 hO hp
          have h104 : slotOf a 104 = .slice B ws.length bc := hp.1
          have h109 : slotOf a 109 = vi (fr + 2 * i + 1) := hp.2.1
          refine wp_enters (f := 24) (args := #[.slice B ws.length bc, vi (fr + 2 * i + 1)]) ?_ ((HP2.out W (below_row HOW.out.2 HOW.out.1 hG HB1.out.1.size)).mono ?_)
          ·simp [slotOf] at h104 h109
           simp [go_sem, h104, h109]
          ·rintro e w' ⟨rfl, hb⟩
           exact ⟨_, rfl, _, rfl, rfl, hb, grown_below hG hb, fun _ h => ⟨own_below h.1 hb, newer_trans h.2 hb⟩⟩
         ·intro a W hG hG1 hO hp; have h11 := hO.slot 11 (by kernel_rfl); refine wp_yields (v := .pointer (some ⟨gy, 1, none⟩)) ?_ ⟨_, rfl, rfl, newer_refl _, hG, fun _ h => h⟩; simp [slotOf] at h11; simp [execOp, go_sem, h11]
         ·intro a W hG hG1 hO hp; have h111 : slotOf a 111 = .pointer (some ⟨gy, 1, none⟩) := hp.1; have c0 := hG.cell u3 HXN.out.2; refine wp_yields (v := vi q.y.hi) ?_ ⟨_, rfl, rfl, newer_refl _, hG, fun _ h => h⟩; simp [slotOf] at h111; simp [execOp, go_sem, h111, c0]
         ·intro a W hG hG1 hO hp; have h11 := hO.slot 11 (by kernel_rfl); refine wp_yields (v := .pointer (some ⟨gy, 0, none⟩)) ?_ ⟨_, rfl, rfl, newer_refl _, hG, fun _ h => h⟩; simp [slotOf] at h11; simp [execOp, go_sem, h11]
         ·intro a W hG hG1 hO hp; have h113 : slotOf a 113 = .pointer (some ⟨gy, 0, none⟩) := hp.1; have c0 := hG.cell u2 HXN.out.2; refine wp_yields (v := vi q.y.lo) ?_ ⟨_, rfl, rfl, newer_refl _, hG, fun _ h => h⟩; simp [slotOf] at h113; simp [execOp, go_sem, h113, c0]
         ·intro a W hG hG1 hO hp; have h112 : slotOf a 112 = vi q.y.hi := hp.1; have h114 : slotOf a 114 = vi q.y.lo := hp.2.1; refine wp_yields (v := vi (q.y.hi - q.y.lo)) ?_ ⟨_, rfl, rfl, newer_refl _, hG, fun _ h => h⟩; simp [slotOf] at h112 h114; simp [execOp, go_sem, h112, h114, es2]
         ·intro a W hG hG1 hO hp; have h115 : slotOf a 115 = vi (q.y.hi - q.y.lo) := hp.1; refine wp_yields (v := vi (q.y.hi - q.y.lo + 1)) ?_ ⟨_, rfl, rfl, newer_refl _, hG, fun _ h => h⟩; simp [slotOf] at h115; simp [execOp, go_sem, h115, et2]
         ·intro a W hG hG1 hO hp; have h110 : slotOf a 110 = vi k2 := hp.1; have h116 : slotOf a 116 = vi (q.y.hi - q.y.lo + 1) := hp.2.1; refine wp_yields (v := vi r2) ?_ ⟨_, rfl, rfl, newer_refl _, hG, fun _ h => h⟩; simp [slotOf] at h110 h116; simp [execOp, go_sem, h110, h116, er2, ez2]
         ·intro a W hG hG1 hO hp; have h103 : slotOf a 103 = vi q.y.lo := hp.1; have h117 : slotOf a 117 = vi r2 := hp.2.1; refine wp_yields (v := vi m.2) ?_ ⟨_, rfl, rfl, newer_refl _, hG, fun _ h => h⟩; simp [slotOf] at h103 h117; simp [execOp, go_sem, h103, h117, ea2]
         ·intro a W hG hG1 hO hp; have h101 : slotOf a 101 = vi m.1 := hp.1; have h118 : slotOf a 118 = vi m.2 := hp.2.1; refine wp_yields (v := mvV m) ?_ ⟨_, rfl, rfl, newer_refl _, hG, fun _ h => h⟩; simp [slotOf] at h101 h118; simp [execOp, go_sem, h101, h118]
         ·intro a W hG hG1 hO hp; have h119 : slotOf a 119 = mvV m := hp.1; refine wp_makes (v := .slice (some ⟨W.heap.size, 0, none⟩) 1 1) (W' := W.alloc (.cells #[vi m.1, vi m.2] 47)) ?_ ⟨_, rfl, ⟨_, rfl, hG.size, Whole.made _ _ _⟩, newer_allocH _ _, grown_alloc hG _, fun _ h => ⟨own_below h.1 (newer_allocH _ _), newer_trans h.2 (newer_allocH _ _)⟩⟩; simp [slotOf] at h119; simp [execOp, go_sem, h119]
         ·intro a W hG hG1 hO hp; have h85 : slotOf a 85 = .slice A i c := hp.1; have h120 := hp.2.1; obtain ⟨nb, h120, hnb, hW⟩ := h120; obtain ⟨ho, hnw⟩ := hG1 rfl; obtain ⟨hi0, hz0, hz1, hz2⟩ := HI.out; refine wp_append_all (enc := mvL) (size := 2) (w1.heap.size) (.tmp 85) (.tmp 120) 34 47 i0 (.agg #[vi 0, vi 0]) 16 Try.underlying34 hi0 hz0 hz1 hz2 rfl (by omega) (fun _ => rfl) mvL_one rfl A i c (f.flatMap mvL) ((eval_slot a 85).trans h85) ho [m] (some ⟨nb, 0, none⟩) 1 ((eval_slot a 120).trans h120) (row_of_whole (enc := mvL) (s := 2) (fun _ => rfl) hW rfl) (by have := HFEW.out; unfold maxLen; simp only [List.length_singleton]; omega) (by have := HFEW.out; simp only [List.length_singleton]; omega) (Nat.le_trans HSZ.out hG.size) ?_; intro B c' w1 hown hgr hat; exact ⟨_, rfl, ⟨B, c', rfl, hown⟩, hgr, grown_trans' hG hgr, fun e => absurd rfl e⟩
        ·intro w10 hG
         rintro _ rfl _ rfl _ rfl _ rfl _ rfl _ rfl _ rfl _ rfl _ rfl _ rfl _ rfl _ rfl _ rfl _ rfl _ rfl _ rfl _ rfl _ rfl _ rfl _ rfl _ rfl _ rfl _ rfl _ rfl _ rfl _ rfl _ rfl _ rfl _ rfl _ rfl _ rfl _ rfl _ rfl _ rfl _ rfl _ hv120 _ ⟨B2, c2, rfl, hown⟩
         change wpList _ _ _ _ _ _
         simp only [Act.put, List.setIfInBounds_toArray, List.set_cons_zero, List.set_cons_succ, List.drop_succ_cons, List.drop_zero]
         have HE := Lib.hid (And.intro hown trivial)
         have HGR := Lib.hid hG
         clear hG hown u0 u1 u2 u3 hv120
         go_wp2_with fail
         refine ⟨⟨i + 1, B2, c2, f ++ [m], by omega, rfl, rfl, HGO.out, by have h := HE.out.1; rw [← List.flatMap_append] at h; exact h, below_row (newer_trans HB1N.out HN9.out) HOW.out.1 HGR.out (Nat.le_refl _), fun g o h => by injection h with h; injection h with h; injection h with h; rw [← h]; exact Nat.lt_of_lt_of_le HLT.out.1 HGR.out.size, fun g o h => by injection h with h; injection h with h; injection h with h; rw [← h]; exact Nat.lt_of_lt_of_le HLT.out.2 HGR.out.size⟩, ?_⟩
         simp [intOf]
         omega

end Go.Proofs.Ytpmafnifgegfbaa
