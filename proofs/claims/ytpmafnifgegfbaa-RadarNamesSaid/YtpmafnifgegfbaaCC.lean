/- The most that a read of a stake may leave: the walk. -/
import Derived.Test.YtpmafnifgegfbaaCA
import Derived.Test.YtpmafnifgegfbaaAB
namespace Go.Proofs.Ytpmafnifgegfbaa
open Go.RowKit Go.Shelf Go.Deep

open Go.ChangeMaps (setBlock)
theorem zeroI (W : World) : (zeroValue 3).run Try.prog W = .ok (vi 0) W := by
  simp [zeroValue, Sem.run_bind, Result.andThen]
  rw [show Try.t3.zero = some (vi 0) by kernel_rfl]
  rfl
theorem whole_setBlock {W : World} {b g : Nat} {ty : TypeId} {cs : Array Value} {o : Obj} (h : Whole W b ty cs) (hg : b ≠ g) : Whole (setBlock W g o) b ty cs := h.same (setBlock_get_ne o hg)
theorem alive_bd {s : Sd} (h : SdOk s) {ks : List (Option Int)} {i : Nat} (hi : i < s.spots.length) {m : Mv} (hm : m ∈ aliveS s ks i) : (-30 ≤ m.1 ∧ m.1 ≤ 30) ∧ -30 ≤ m.2 ∧ m.2 ≤ 30 := by
  obtain ⟨f, hf, rfl⟩ := (mem_alive hi).1 hm
  exact FieldIn.bd h ((agree_parts h.toolIn).1 hf).1 hi
/-- May a read of a stake come of a movement? -/
def inW (s : Sd) (t : Tl) (m : Mv) (r : Int) : Prop := sightN t m - offN t s.day ≤ r ∧ r ≤ sightN t m + offN t s.day
instance (s : Sd) (t : Tl) (m : Mv) (r : Int) : Decidable (inW s t m r) := by unfold inW; exact inferInstance
/-- May a read of a stake come, by some turns? -/
def stakeB (s : Sd) (t : Tl) (r : Int) (ks : List (Option Int)) : Bool := (aliveS s ks t.spot.toNat).any fun m => decide (inW s t m r)
/-- By how many of the turns may a read come? -/
def cntP (s : Sd) (t : Tl) (Ks : List (List (Option Int))) (r : Int) : Int := ((Ks.filter (stakeB s t r)).length : Nat)
theorem cnt_bd (s : Sd) (t : Tl) (Ks : List (List (Option Int))) (r : Int) : 0 ≤ cntP s t Ks r ∧ cntP s t Ks r ≤ Ks.length := by
  unfold cntP
  have := List.length_filter_le (stakeB s t r) Ks
  omega
theorem cnt_succ {s : Sd} {t : Tl} {Ks : List (List (Option Int))} {i : Nat} {k : List (Option Int)} (hk : Ks[i]? = some k) (r : Int) : cntP s t (Ks.take (i + 1)) r = cntP s t (Ks.take i) r + if stakeB s t r k = true then 1 else 0 := by
  unfold cntP
  rw [List.take_add_one, hk, List.filter_append, Option.toList_some, List.length_append]
  by_cases h : stakeB s t r k = true
  · rw [List.filter_cons_of_pos h, if_pos h]
    simp
  · rw [List.filter_cons_of_neg h, if_neg h]
    simp
/-- .. and with some of a further look's reads. -/
def cntD (s : Sd) (t : Tl) (Ks : List (List (Option Int))) (don : List Int) (r : Int) : Int := cntP s t Ks r + if r ∈ don then 1 else 0
/-- A number is the greatest of some, or 0. -/
def Top (W : Int) (f : Int → Int) : Prop := (∀ r, f r ≤ W) ∧ (W = 0 ∨ ∃ r, f r = W)
theorem Top.nat {W : Int} {f : Int → Int} (h : Top W f) (h0 : ∀ r, 0 ≤ f r) : 0 ≤ W := Int.le_trans (h0 0) (h.1 0)
theorem Top.uniq {W W' : Int} {f : Int → Int} (h : Top W f) (h' : Top W' f) (h0 : ∀ r, 0 ≤ f r) : W = W' := by
  have a := h.nat h0
  have b := h'.nat h0
  rcases h.2 with e | ⟨r, e⟩ <;> rcases h'.2 with e' | ⟨r', e'⟩
  · omega
  · have := h.1 r'; omega
  · have := h'.1 r; omega
  · have := h.1 r'; have := h'.1 r; omega
theorem Top.up {W k : Int} {f g : Int → Int} (h : Top W f) (hk : g k = f k + 1) (hg : ∀ r, r ≠ k → g r = f r) : Top (if W < f k + 1 then f k + 1 else W) g := by
  refine ⟨fun r => ?_, ?_⟩
  · have h1 := h.1 r
    by_cases e : r = k
    · rw [e, hk]; split <;> omega
    · rw [hg r e]; split <;> omega
  · by_cases hlt : W < f k + 1
    · rw [if_pos hlt]; exact .inr ⟨k, hk⟩
    · rw [if_neg hlt]
      rcases h.2 with e | ⟨r, e⟩
      · exact .inl e
      · refine .inr ⟨r, ?_⟩
        by_cases e2 : r = k
        · rw [e2] at e; omega
        · rw [hg r e2, e]
theorem Top.same {W : Int} {f g : Int → Int} (h : Top W f) (hg : ∀ r, g r = f r) : Top W g := by
  have e : g = f := funext hg
  rw [e]; exact h
/-- A map of numbers that holds just the reads that may come. -/
def CoJ (cb : Nat) (W : World) (P : Int → Prop) : Prop := ∃ L : List (Int × Unit), KMap vi trV cb L W ∧ ∀ r, r ∈ L.map (·.1) ↔ P r
/-- A map of numbers that holds the counts. -/
def LfJ (mb : Nat) (W : World) (f : Int → Int) : Prop := ∃ l : List (Int × Int), KMap vi vi mb l W ∧ ∀ r, getM l r = f r
theorem CoJ.next {cb : Nat} {W W' : World} {P : Int → Prop} (h : CoJ cb W P) (hb : newer W W') : CoJ cb W' P := let ⟨L, h1, h2⟩ := h; ⟨L, h1.next hb, h2⟩
theorem CoJ.same {cb : Nat} {W W' : World} {P : Int → Prop} (h : CoJ cb W P) (hb : W'.heap[cb]? = W.heap[cb]?) : CoJ cb W' P := let ⟨L, h1, h2⟩ := h; ⟨L, h1.same hb, h2⟩
theorem CoJ.imp {cb : Nat} {W : World} {P Q : Int → Prop} (h : CoJ cb W P) (hq : ∀ r, P r ↔ Q r) : CoJ cb W Q := let ⟨L, h1, h2⟩ := h; ⟨L, h1, fun r => (h2 r).trans (hq r)⟩
theorem CoJ.lt {cb : Nat} {W : World} {P : Int → Prop} (h : CoJ cb W P) : cb < W.heap.size := let ⟨_, h1, _⟩ := h; h1.lt
theorem LfJ.next {mb : Nat} {W W' : World} {f : Int → Int} (h : LfJ mb W f) (hb : newer W W') : LfJ mb W' f := let ⟨L, h1, h2⟩ := h; ⟨L, h1.next hb, h2⟩
theorem LfJ.same {mb : Nat} {W W' : World} {f : Int → Int} (h : LfJ mb W f) (hb : W'.heap[mb]? = W.heap[mb]?) : LfJ mb W' f := let ⟨L, h1, h2⟩ := h; ⟨L, h1.same hb, h2⟩
theorem LfJ.lt {mb : Nat} {W : World} {f : Int → Int} (h : LfJ mb W f) : mb < W.heap.size := let ⟨_, h1, _⟩ := h; h1.lt
theorem rowP {w : World} {B : Nat} {A : Option Addr} {l : List Nat} (h : Row ptL 1 w B A l) {k : Nat} {c : Nat} (hk : l[k]? = some c) : ∃ b off, A = some ⟨b, off, none⟩ ∧ w.cell? ⟨b, off + k, none⟩ = some (ptV c) := by
  obtain ⟨b, off, e, _, h1⟩ := h (fun e => by rw [e] at hk; simp at hk)
  have h2 := h1 k c hk 0 _ rfl
  rw [Nat.mul_one, Nat.add_zero] at h2
  exact ⟨b, off, e, h2⟩
set_option maxRecDepth 100000 in
set_option maxHeartbeats 8000000 in
theorem worstP_any (y : Sm) (t : Tl) (Ks : List (List (Option Int))) (ls : List Nat) (A : Option Addr) (c : Nat) (w : World) (hs : SdOk y.s) (ht : TlOk y.s.spots.length y.s.day t) (hl : Row ptL 1 w w.heap.size A ls) (hln : ls.length = Ks.length) (h60 : ls.length ≤ 60)
    (hlk : ∀ (i : Nat) (k : List (Option Int)) (l : Nat), Ks[i]? = some k → ls[i]? = some l → ∃ B ms A c, LookOk y k B l ms A c w) :
    Calls Try.prog 84 #[smV y, tlV t, .slice A ls.length c] w fun e w' => ∃ W : Int, e = .returned (vi W) ∧ Top W (cntP y.s t Ks) ∧ newer w w' := by
  have hnb := newer_trans (newer_allocH w (.cells (smC y) 40)) (newer_allocH (w.alloc (.cells (smC y) 40)) (.cells (tlC t) 112))
  have hsb := (Whole.made w 40 (smC y)).alloc (.cells (tlC t) 112)
  have htb := Whole.made (w.alloc (.cells (smC y) 40)) 112 (tlC t)
  rw [World.size_alloc] at htb
  have HB0 := Lib.hid (And.intro hnb (And.intro hsb htb))
  have HS := Lib.hid hs
  have HT := Lib.hid ht
  have HL := Lib.hid hl
  have HLK := Lib.hid hlk
  obtain ⟨n, hn⟩ : ∃ n, n = ls.length := ⟨_, rfl⟩
  have hn60 : n ≤ 60 := by rw [hn]; exact h60
  rw [← hn]
  have HN := Lib.hid (And.intro hn hln)
  have hdy := hs.day
  have hob := off_bd ht hdy.1 hdy.2
  have HOF := Lib.hid (fun W => off_any t y.s.day W (by have := ht.err; omega) (by have := ht.drift; omega) (by have := ht.since; omega) (by omega))
  obtain ⟨of, hof⟩ : ∃ q, q = offN t y.s.day := ⟨_, rfl⟩
  rw [← hof] at HOF hob
  have HO := Lib.hid hof
  clear hnb hsb htb hs ht hl hlk hln h60 hn hdy hof
  go_enter Try.func84, Try.ntmps84
  go_upto_region 1 with fail
  obtain ⟨sb, hsb⟩ : ∃ q, q = w.heap.size := ⟨_, rfl⟩
  rw [← hsb] at HB0 ⊢
  obtain ⟨tb, htb⟩ : ∃ q, q = sb + 1 := ⟨_, rfl⟩
  rw [← htb] at HB0
  try rw [← htb]
  refine genQ (fun X => newer w X ∧ Whole X sb 40 (smC y) ∧ Whole X tb 112 (tlC t)) HB0.out ?_
  clear HB0 hsb htb
  rintro w1 ⟨g1, g2, g3⟩
  have HB1 := Lib.hid (And.intro g1 (And.intro g2 g3))
  clear g1 g2 g3
  go_wp2_with fail
  rw [run_makeMap]
  go_upto_region 2 with fail
  have HM2 : Hid (newer w1 (w1.alloc (.map #[] 0)) ∧ KMap vi vi w1.heap.size ([] : List (Int × Int)) (w1.alloc (.map #[] 0))) := Lib.hid ⟨newer_allocH _ _, KMap.made vi vi w1⟩
  obtain ⟨mb, hmb⟩ : ∃ q, q = w1.heap.size := ⟨_, rfl⟩
  rw [← hmb] at HM2 ⊢
  have HMB := Lib.hid hmb
  refine genQ (fun X => newer w1 X ∧ KMap vi vi mb ([] : List (Int × Int)) X) HM2.out ?_
  clear HM2 hmb
  rintro w2 ⟨g1, g2⟩
  have HM2 := Lib.hid (And.intro g1 g2)
  have hx2 := HB1.out.2.1.below g1 HB1.out.2.1.lt
  have ht2 := HB1.out.2.2.below g1 HB1.out.2.2.lt
  have x3 := hx2.at 3 (v := vi y.s.day) rfl
  have t0 := ht2.at 0 (v := vi t.spot) rfl
  have t1 := ht2.at 1 (v := vi t.a) rfl
  have t2 := ht2.at 2 (v := vi t.b) rfl
  have t3 := ht2.at 3 (v := vi t.turn) rfl
  have t4 := ht2.at 4 (v := vi t.err) rfl
  have t5 := ht2.at 5 (v := vi t.drift) rfl
  have t6 := ht2.at 6 (v := vi t.since) rfl
  clear g1 g2 hx2 ht2
  go_wp2_with fail
  refine ((HOF.out _).mono ?_)
  rintro e w3 ⟨rfl, hb⟩
  have HM3 := Lib.hid (And.intro (newer_trans HM2.out.1 hb) (HM2.out.2.next hb))
  clear hb x3 t0 t1 t2 t3 t4 t5 t6 HM2 HOF
  go_wp2_with fail
  try go_frame
  go_loopw [6, 22] (fun s6 s22 wr => ∃ (i : Nat) (wv : Int), i ≤ n ∧ s6 = vi wv ∧ s22 = vi i ∧ newer w1 wr ∧ LfJ mb wr (cntP y.s t (Ks.take i)) ∧ Top wv (cntP y.s t (Ks.take i))) (fun _ s22 _ => n - (intOf s22).toNat)
  case atStart => exact ⟨0, 0, Nat.zero_le _, rfl, rfl, HM3.out.1, ⟨[], HM3.out.2, fun r => rfl⟩, ⟨fun r => by simp [cntP], .inl rfl⟩⟩
  case round =>
    obtain ⟨wo, rfl⟩ : ∃ v, v = wr := ⟨_, rfl⟩
    obtain ⟨i, wv, hi, rfl, rfl, hnw, hlf, htop⟩ := hrel
    have HJ := Lib.hid (And.intro hnw (And.intro hlf htop))
    clear hlf htop
    by_cases hlt : i < n
    case neg =>
      obtain rfl : i = n := by omega
      have hin : ¬ (i : Int) < i := by omega
      have HZ : Hid (Top wv (cntP y.s t Ks)) := Lib.hid (by have h := HJ.out.2.2; rw [HN.out.1, HN.out.2, List.take_length] at h; exact h)
      clear hnw
      go_wp2_with fail
      go_ret
      first | exact ⟨wv, rfl, HZ.out, newer_trans HB1.out.1 HJ.out.1⟩ | exact ⟨⟨wv, rfl⟩, HZ.out, newer_trans HB1.out.1 HJ.out.1⟩
    case pos =>
      have hin : (i : Int) < n := by omega
      obtain ⟨lb, hlb⟩ : ∃ l, ls[i]? = some l := ⟨_, List.getElem?_eq_getElem (by rw [← HN.out.1]; exact hlt)⟩
      obtain ⟨ks, hks⟩ : ∃ k, Ks[i]? = some k := ⟨_, List.getElem?_eq_getElem (by have h1 := HN.out.1; have h2 := HN.out.2; omega)⟩
      obtain ⟨lsb, lso, rfl, clk⟩ := rowP HL.out hlb
      have hnwo := newer_trans HB1.out.1 hnw
      have clk := keep_cell clk hnwo
      obtain ⟨B, ms, A3, c3, hlko⟩ := HLK.out i ks lb hks hlb
      have hlko := hlko.next hnwo
      obtain ⟨ka, nk, kc, hlw⟩ := hlko.lk
      obtain ⟨sp, hsp⟩ : ∃ q : Nat, q = t.spot.toNat := ⟨_, rfl⟩
      have hspl : sp < y.s.spots.length := by have := HT.out.spot; omega
      have hsl : (sp : Int) < y.s.spots.length := by omega
      obtain ⟨mi, hmi⟩ : ∃ q, ms[sp]? = some q := ⟨_, List.getElem?_eq_getElem (by have := hlko.ln; omega)⟩
      obtain ⟨ab, ao, ea, -, -⟩ := rowM hlko.row hmi
      obtain rfl := ea
      obtain ⟨al, hal⟩ : ∃ q, q = aliveS y.s ks sp := ⟨_, rfl⟩
      have HAB : Hid (∀ m ∈ al, (-30 ≤ m.1 ∧ m.1 ≤ 30) ∧ -30 ≤ m.2 ∧ m.2 ≤ 30) := Lib.hid (fun m hm => alive_bd HS.out hspl (by rw [← hal]; exact hm))
      have HKS := Lib.hid hks
      have HCO : Hid (∀ r, stakeB y.s t r ks = true ↔ ∃ m ∈ al, inW y.s t m r) := Lib.hid (fun r => by
        unfold stakeB
        rw [List.any_eq_true, hal, hsp]
        constructor
        · rintro ⟨m, h1, h2⟩; exact ⟨m, h1, of_decide_eq_true h2⟩
        · rintro ⟨m, h1, h2⟩; exact ⟨m, h1, decide_eq_true h2⟩)
      have hkm := hlko.mp sp mi hmi
      rw [← hal] at hkm
      have HKM := Lib.hid (And.intro hkm (And.intro hlw (rowM2 hlko.row rfl hmi)))
      have HSP := Lib.hid hsp
      have HLT := Lib.hid hlt
      clear hlko hlw hkm hal hmi hsp hspl hnwo hnw hks hlb
      go_wp2_with fail
      rw [run_makeMap]
      go_upto_region 7 with fail
      have HM4 : Hid (newer wo (wo.alloc (.map #[] 0)) ∧ KMap vi trV wo.heap.size ([] : List (Int × Unit)) (wo.alloc (.map #[] 0))) := Lib.hid ⟨newer_allocH _ _, KMap.made vi trV wo⟩
      obtain ⟨cb, hcb⟩ : ∃ q, q = wo.heap.size := ⟨_, rfl⟩
      rw [← hcb] at HM4 ⊢
      have HCB := Lib.hid hcb
      refine genQ (fun X => newer wo X ∧ KMap vi trV cb ([] : List (Int × Unit)) X) HM4.out ?_
      clear HM4 hcb clk
      rintro w4 ⟨g1, g2⟩
      have HM4 := Lib.hid (And.intro g1 g2)
      have l6 := (HKM.out.2.1.below g1 HKM.out.2.1.lt).at 6 (v := .slice (some ⟨ab, ao, none⟩) y.s.spots.length c3) rfl
      have a0 := keep_cell HKM.out.2.2 g1
      have hn14 := newer_trans HJ.out.1 g1
      have ts := (HB1.out.2.2.below hn14 HB1.out.2.2.lt).at 0 (v := vi t.spot) rfl
      have ts : w4.cell? ⟨tb, 0, none⟩ = some (.int .i64 sp) := by rw [ts, HSP.out]; have := HT.out.spot; exact congrArg some (congrArg vi (by omega))
      clear g1 g2 hn14
      refine wp_words (by kernel_rfl) (region_told 8 (by kernel_rfl) (by kernel_rfl) (fun W => Below w4.heap.size w4 W) newer (pickD [vIs (.pointer (some ⟨lb, 0, none⟩)), vIs (.pointer (some ⟨lb, 0, none⟩)), vIs (.pointer (some ⟨lb, 6, none⟩)), vIs (.slice (some ⟨ab, ao, none⟩) y.s.spots.length c3), vIs (.pointer (some ⟨tb, 0, none⟩)), vIs (.int .i64 sp), vIs (.pointer (some ⟨ab, ao + sp, none⟩)), vIs (.map (some mi))]) (fun h k => newer_trans h k) (pickD_stable _ ⟨vIs_st, vIs_st, vIs_st, vIs_st, vIs_st, vIs_st, vIs_st, vIs_st, trivial⟩) (Below.refl _ w4).drew (Below.refl _ _) ?_ ?_)
      · refine ⟨?_, ?_, ?_, ?_, ?_, ?_, ?_, ?_, trivial⟩
        · exact fun a W hG _ hO _ => kM 10 rfl (hO.slot 10 (by kernel_rfl)) rfl hG
        · intro a W hG hR hO hp
          have h27 : slotOf a 27 = .pointer (some ⟨lb, 0, none⟩) := hp.1
          refine kY (v := .pointer (some ⟨lb, 0, none⟩)) hG rfl ?_
          simp [slotOf] at h27
          simp [execOp, go_sem, h27]
        · intro a W hG hR hO hp
          have h28 : slotOf a 28 = .pointer (some ⟨lb, 0, none⟩) := hp.1
          refine kY (v := .pointer (some ⟨lb, 6, none⟩)) hG rfl ?_
          simp [slotOf] at h28
          simp [execOp, go_sem, h28]
        · intro a W hG hR hO hp
          have h29 : slotOf a 29 = .pointer (some ⟨lb, 6, none⟩) := hp.1
          have c0 := keep_cell l6 hG
          refine kY (v := .slice (some ⟨ab, ao, none⟩) y.s.spots.length c3) hG rfl ?_
          simp [slotOf] at h29
          simp [execOp, go_sem, h29, c0]
        · intro a W hG hR hO hp
          have h4 := hO.slot 4 (by kernel_rfl)
          refine kY (v := .pointer (some ⟨tb, 0, none⟩)) hG rfl ?_
          simp [slotOf] at h4
          simp [execOp, go_sem, h4]
        · intro a W hG hR hO hp
          have h31 : slotOf a 31 = .pointer (some ⟨tb, 0, none⟩) := hp.1
          have c0 := keep_cell ts hG
          refine kY (v := .int .i64 sp) hG rfl ?_
          simp [slotOf] at h31
          simp [execOp, go_sem, h31, c0]
        · intro a W hG hR hO hp
          have h30 : slotOf a 30 = .slice (some ⟨ab, ao, none⟩) y.s.spots.length c3 := hp.1
          have h32 : slotOf a 32 = .int .i64 sp := hp.2.1
          refine kY (v := .pointer (some ⟨ab, ao + sp, none⟩)) hG rfl ?_
          simp [slotOf] at h30 h32
          simp [execOp, go_sem, h30, h32, hsl]
        · intro a W hG hR hO hp
          have h33 : slotOf a 33 = .pointer (some ⟨ab, ao + sp, none⟩) := hp.1
          have c0 := keep_cell a0 hG
          refine kY (v := .map (some mi)) hG rfl ?_
          simp [slotOf] at h33
          simp [execOp, go_sem, h33, c0]
      · intro w5 hG hR
        rintro _ rfl _ rfl _ rfl _ rfl _ rfl _ rfl _ rfl _ rfl
        change wpList _ _ _ _ _ _
        simp only [Act.put, List.setIfInBounds_toArray, List.set_cons_zero, List.set_cons_succ, List.drop_succ_cons, List.drop_zero]
        have H5 := Lib.hid (And.intro (newer_trans HM4.out.1 hG) (And.intro (HM4.out.2.next hG) (HKM.out.1.next (newer_trans HM4.out.1 hG))))
        clear hG hR l6 a0 ts
        go_wp2_with (at_range; refine wpList_range_s _ rfl _ 128 rfl Try.underlying128 mi (kvL al) rfl H5.out.2.2 ?_; intro w6 hn6 hit6)
        obtain ⟨ib, hib⟩ : ∃ q, q = w5.heap.size := ⟨_, rfl⟩
        rw [← hib] at hit6 ⊢
        rw [kv_keys] at hit6
        have H6 := Lib.hid (show newer wo w6 ∧ KMap vi trV cb ([] : List (Int × Unit)) w6 ∧ KIter mvV trV mi (kvL al) ib al w6 from ⟨newer_trans H5.out.1 hn6, H5.out.2.1.next hn6, hit6⟩)
        have HIB : Hid (cb < ib ∧ mi < cb ∧ mb < cb ∧ tb < cb ∧ sb < cb) := Lib.hid (by
          have h1 := H5.out.2.1.lt
          have h2 := HKM.out.1.lt
          have h3 := HJ.out.2.1.lt
          have h4 := HCB.out
          have h5 := HB1.out.2.2.lt
          have h6 := HB1.out.2.1.lt
          have h7 := HJ.out.1.size
          omega)
        clear hn6 hit6 hib
        try go_frame
        go_loopw [12, 13] (fun _ _ wr => ∃ (rem don : List Mv), newer wo wr ∧ CoJ cb wr (fun r => ∃ m ∈ don, inW y.s t m r) ∧ KIter mvV trV mi (kvL al) ib rem wr ∧ (∀ m, m ∈ al ↔ m ∈ don ∨ m ∈ rem)) (fun _ _ wr => itLeft ib wr)
        case atStart => exact ⟨al, [], H6.out.1, ⟨[], H6.out.2.1, fun r => by simp⟩, H6.out.2.2, fun m => by simp⟩
        case round =>
          obtain ⟨rem, don, hnw, hco, hit, hmm⟩ := hrel
          have HIT := Lib.hid hit
          have HF := Lib.hid (And.intro hnw (And.intro hco hmm))
          obtain ⟨CL, hcl, hclm⟩ := HF.out.2.1
          have HCL := Lib.hid hcl
          have HCLM := Lib.hid hclm
          have HTW := Lib.hid (And.intro (HB1.out.2.2.below (newer_trans HJ.out.1 hnw) HB1.out.2.2.lt) (HB1.out.2.1.below (newer_trans HJ.out.1 hnw) HB1.out.2.1.lt))
          clear hnw hco hit hmm hcl hclm H6
          go_wp2_with (first | (at_next; refine wpList_next_s _ rfl _ rfl mi ib (kvL al) rem rfl HIT.out ?_ ?_; (intro hall; have HALL := Lib.hid hall; clear hall); rotate_left 1; (intro p w7 hp hpr hit7 hbel hsz hoth hen; obtain ⟨⟨ox, oy⟩, _⟩ := p; have HP := Lib.hid (And.intro hp hpr); have HIT7 := Lib.hid hit7; have HBEL := Lib.hid hbel; have hm7 := newer_allocH w7 (.cells #[vi ox, vi oy] 116); have ht7 := (HTW.out.1.below (HBEL.out ib (Nat.le_refl _)) (by have := HIB.out; omega)).alloc (.cells #[vi ox, vi oy] 116); have HW7 := Lib.hid ht7; have t0 := ht7.at 0 (v := vi t.spot) rfl; have t1 := ht7.at 1 (v := vi t.a) rfl; have t2 := ht7.at 2 (v := vi t.b) rfl; have t3 := ht7.at 3 (v := vi t.turn) rfl; have t4 := ht7.at 4 (v := vi t.err) rfl; have t5 := ht7.at 5 (v := vi t.drift) rfl; have t6 := ht7.at 6 (v := vi t.since) rfl; have m0 := (Whole.made w7 116 #[vi ox, vi oy]).at 0 (v := vi ox) rfl; have m1 := (Whole.made w7 116 #[vi ox, vi oy]).at 1 (v := vi oy) rfl; clear hp hpr hit7 hbel hsz hoth ht7)) | (at_range; refine wpList_range_s _ rfl _ 180 rfl Try.underlying180 cb CL rfl HCL.out ?_; intro w8 hn8 hit8))
          · have hpa : (ox, oy) ∈ al := kv_mem HP.out.1
            have hbd := HAB.out _ hpa
            have hto := HT.out
            have hsgb := sight_bd hto hbd.1 hbd.2
            have HSG : Hid (∀ W, Calls Try.prog 108 #[tlV t, mvV (ox, oy)] W fun e w' => e = .returned (vi (sightN t (ox, oy))) ∧ newer W w') := Lib.hid (fun W => sight_any t (ox, oy) W (by have := hto.a; omega) (by have := hto.b; omega) (by have := hbd.1; omega) (by have := hbd.2; omega))
            obtain ⟨sg, hsg⟩ : ∃ q, q = sightN t (ox, oy) := ⟨_, rfl⟩
            rw [← hsg] at HSG hsgb
            have HSE := Lib.hid hsg
            have h7 : newer wo w7 := HF.out.1.trans (HBEL.out _ (by have := HIB.out; have := HCB.out; omega))
            have H7 : Hid (newer wo (w7.alloc (.cells #[vi ox, vi oy] 116)) ∧ CoJ cb (w7.alloc (.cells #[vi ox, vi oy] 116)) (fun r => ∃ m ∈ don, inW y.s t m r) ∧ KIter mvV trV mi (kvL al) ib (rem.filter fun k => decide (k ≠ (ox, oy))) (w7.alloc (.cells #[vi ox, vi oy] 116)) ∧ Whole (w7.alloc (.cells #[vi ox, vi oy] 116)) tb 112 (tlC t) ∧ Whole (w7.alloc (.cells #[vi ox, vi oy] 116)) w7.heap.size 116 #[vi ox, vi oy]) := Lib.hid ⟨newer_trans h7 hm7, (HF.out.2.1.same ((HBEL.out ib (Nat.le_refl _)).block cb HIB.out.1)).next hm7, HIT7.out.next hm7, HW7.out, Whole.made _ _ _⟩
            have HPB : Hid (cb < w7.heap.size) := Lib.hid (by have h1 := HF.out.2.1.lt; have h2 := (HBEL.out 0 (Nat.zero_le _)).size; omega)
            obtain ⟨pb, hpb⟩ : ∃ q, q = w7.heap.size := ⟨_, rfl⟩
            rw [← hpb] at H7 HPB ⊢
            clear hpa hbd hto hsg h7 hm7 hen HIT7 HW7
            refine ((HSG.out _).mono ?_)
            rintro e w8 ⟨rfl, hb⟩
            have H8 := Lib.hid (And.intro (newer_trans H7.out.1 hb) (And.intro (H7.out.2.1.next hb) (And.intro (H7.out.2.2.1.next hb) (And.intro (H7.out.2.2.2.1.below hb H7.out.2.2.2.1.lt) (H7.out.2.2.2.2.below hb H7.out.2.2.2.2.lt)))))
            clear hb H7 hpb HBEL t0 t1 t2 t3 t4 t5 t6 m0 m1
            go_wp2_with fail
            try go_frame
            go_loopw [13] (fun s13 wr => ∃ q : Int, s13 = vi q ∧ sg - of ≤ q ∧ q ≤ sg + of + 1 ∧ newer wo wr ∧ CoJ cb wr (fun r => (∃ m ∈ don, inW y.s t m r) ∨ (sg - of ≤ r ∧ r < q)) ∧ KIter mvV trV mi (kvL al) ib (rem.filter fun k => decide (k ≠ (ox, oy))) wr ∧ Whole wr tb 112 (tlC t) ∧ Whole wr pb 116 #[vi ox, vi oy]) (fun s13 _ => (sg + of + 1 - intOf s13).toNat)
            case atStart => exact ⟨sg - of, rfl, Int.le_refl _, by omega, H8.out.1, H8.out.2.1.imp (fun r => ⟨fun h => .inl h, fun h => h.elim id (fun h => by omega)⟩), H8.out.2.2.1, H8.out.2.2.2.1, H8.out.2.2.2.2⟩
            case round =>
              obtain ⟨q, rfl, hq1, hq2, hnw, hco, hit, htw, hpw⟩ := hrel
              have t0 := htw.at 0 (v := vi t.spot) rfl
              have t1 := htw.at 1 (v := vi t.a) rfl
              have t2 := htw.at 2 (v := vi t.b) rfl
              have t3 := htw.at 3 (v := vi t.turn) rfl
              have t4 := htw.at 4 (v := vi t.err) rfl
              have t5 := htw.at 5 (v := vi t.drift) rfl
              have t6 := htw.at 6 (v := vi t.since) rfl
              have m0 := hpw.at 0 (v := vi ox) rfl
              have m1 := hpw.at 1 (v := vi oy) rfl
              have HK := Lib.hid (And.intro hnw (And.intro hco (And.intro hit (And.intro htw hpw))))
              clear hnw hco hit htw hpw
              by_cases hle : q ≤ sg + of
              · go_wp2_with fail
                refine ((HSG.out _).mono ?_)
                rintro e w9 ⟨rfl, hb⟩
                have HK9 := Lib.hid (And.intro (newer_trans HK.out.1 hb) (And.intro (HK.out.2.2.1.next hb) (And.intro (HK.out.2.2.2.1.below hb HK.out.2.2.2.1.lt) (HK.out.2.2.2.2.below hb HK.out.2.2.2.2.lt))))
                obtain ⟨CL9, hcl, hclm⟩ := HK.out.2.1.next hb
                have HCL9 := Lib.hid hcl
                have HCM9 := Lib.hid hclm
                clear hb HK hcl hclm t0 t1 t2 t3 t4 t5 t6 m0 m1
                go_wp2_with (at_mapUpdate; refine wpList_update_i _ rfl _ _ _ 180 rfl Try.underlying3 Try.underlying180 cb CL9 rfl HCL9.out q () rfl rfl ?_; intro ob hob; have HOB := Lib.hid hob; clear hob)
                have HE : Hid (newer wo (setBlock w9 cb ob) ∧ CoJ cb (setBlock w9 cb ob) (fun r => (∃ m ∈ don, inW y.s t m r) ∨ (sg - of ≤ r ∧ r < q + 1)) ∧ KIter mvV trV mi (kvL al) ib (rem.filter fun k => decide (k ≠ (ox, oy))) (setBlock w9 cb ob) ∧ Whole (setBlock w9 cb ob) tb 112 (tlC t) ∧ Whole (setBlock w9 cb ob) pb 116 #[vi ox, vi oy]) := Lib.hid ⟨below_setBlock HK9.out.1 (by have := HCB.out; omega) ob, ⟨putM CL9 q (), HOB.out, fun r => by
                  rw [keys_put, HCM9.out r]
                  constructor
                  · rintro (rfl | h | h)
                    · exact .inr ⟨hq1, by omega⟩
                    · exact .inl h
                    · exact .inr ⟨h.1, by omega⟩
                  · rintro (h | h)
                    · exact .inr (.inl h)
                    · by_cases e : r = q
                      · exact .inl e
                      · exact .inr (.inr ⟨h.1, by omega⟩)⟩, HK9.out.2.1.same (setBlock_get_ne _ (by have := HIB.out; omega)) (setBlock_get_ne _ (by have := HIB.out; omega)), whole_setBlock HK9.out.2.2.1 (by have := HIB.out; omega), whole_setBlock HK9.out.2.2.2 (by have := HPB.out; omega)⟩
                go_roundw
                case rel => exact ⟨q + 1, by go_num, by omega, by omega, HE.out.1, HE.out.2.1, HE.out.2.2.1, HE.out.2.2.2.1, HE.out.2.2.2.2⟩
                case measure => simp [intOf]; omega
              · go_wp2_with fail
                refine ((HSG.out _).mono ?_)
                rintro e w9 ⟨rfl, hb⟩
                have HK9 : Hid (newer wo w9 ∧ CoJ cb w9 (fun r => ∃ m ∈ (ox, oy) :: don, inW y.s t m r) ∧ KIter mvV trV mi (kvL al) ib (rem.filter fun k => decide (k ≠ (ox, oy))) w9) := Lib.hid ⟨newer_trans HK.out.1 hb, (HK.out.2.1.next hb).imp (fun r => by
                  have hw : inW y.s t (ox, oy) r ↔ sg - of ≤ r ∧ r < q := by
                    unfold inW
                    rw [← HSE.out, ← HO.out]
                    omega
                  constructor
                  · rintro (⟨m, hm, h⟩ | h)
                    · exact ⟨m, List.mem_cons_of_mem _ hm, h⟩
                    · exact ⟨(ox, oy), List.mem_cons_self .., hw.2 h⟩
                  · rintro ⟨m, hm, h⟩
                    rcases List.mem_cons.1 hm with rfl | hm
                    · exact .inr (hw.1 h)
                    · exact .inl ⟨m, hm, h⟩), HK.out.2.2.1.next hb⟩
                clear hb HK t0 t1 t2 t3 t4 t5 t6 m0 m1
                go_wp2_with fail
                go_roundw
                case rel =>
                  refine ⟨rem.filter fun k => decide (k ≠ (ox, oy)), (ox, oy) :: don, HK9.out.1, HK9.out.2.1, HK9.out.2.2, fun m => ?_⟩
                  rw [HF.out.2.2 m]
                  by_cases em : m = (ox, oy)
                  · simp [em, HP.out.2]
                  · simp [em, List.mem_filter]
                case measure =>
                  rw [HK9.out.2.2.left, HIT.out.left]
                  exact filter_less HP.out.2
          · have HMM : Hid (∀ m, m ∈ al ↔ m ∈ don) := Lib.hid (fun m => by rw [HF.out.2.2 m, HALL.out]; simp)
            have H8 := Lib.hid (And.intro (newer_trans HJ.out.1 (newer_trans HF.out.1 hn8)) (And.intro hit8 (HJ.out.2.1.next (newer_trans HF.out.1 hn8))))
            have HI2 : Hid (cb < wr.heap.size) := Lib.hid HCL.out.lt
            obtain ⟨ib2, hib2⟩ : ∃ q, q = wr.heap.size := ⟨_, rfl⟩
            rw [← hib2] at H8 HI2 ⊢
            clear hn8 hit8 hib2 HIT
            try go_frame
            go_loopw [6, 14] (fun s6 _ wr => ∃ (rem don : List Int) (wv : Int), s6 = vi wv ∧ newer w1 wr ∧ KIter vi trV cb CL ib2 rem wr ∧ (∀ r, r ∈ CL.map (·.1) ↔ r ∈ don ∨ r ∈ rem) ∧ (∀ r ∈ rem, r ∉ don) ∧ LfJ mb wr (cntD y.s t (Ks.take i) don) ∧ Top wv (cntD y.s t (Ks.take i) don)) (fun _ _ wr => itLeft ib2 wr)
            case atStart => exact ⟨CL.map (·.1), [], wv, rfl, H8.out.1, H8.out.2.1, fun r => by simp, fun r _ => by simp, let ⟨l, h1, h2⟩ := H8.out.2.2; ⟨l, h1, fun r => by rw [h2 r]; simp [cntD]⟩, HJ.out.2.2.same fun r => by simp [cntD]⟩
            case round =>
              obtain ⟨rem2, don2, wv2, rfl, hnw, hit, hmm, hdj, ⟨l, hl, hlm⟩, htop⟩ := hrel
              have HIT2 := Lib.hid hit
              have HG2 := Lib.hid (And.intro hnw (And.intro hmm (And.intro hdj (And.intro hlm htop))))
              have HL := Lib.hid hl
              clear hnw hit hmm hdj hl hlm htop
              go_wp2_with (first | (at_next; refine wpList_next_s _ rfl _ rfl cb ib2 CL rem2 rfl HIT2.out ?_ ?_; (intro hall; have HALL2 := Lib.hid hall; clear hall); rotate_left 1; (intro p w9 hp hpr hit9 hbel hsz hoth hen; obtain ⟨k, _⟩ := p; have HP2 := Lib.hid hpr; have HIT9 := Lib.hid hit9; have HBEL2 := Lib.hid hbel; have hnd : k ∉ don2 := HG2.out.2.2.1 k hpr; have hcb := cnt_bd y.s t (Ks.take i) k; have htk : (Ks.take i).length ≤ i := (by rw [List.length_take]; omega); obtain ⟨g, hg⟩ : ∃ g, g = getM l k := ⟨_, rfl⟩; have hge : g = cntP y.s t (Ks.take i) k := (by rw [hg, HG2.out.2.2.2.1 k]; unfold cntD; rw [if_neg hnd]; omega); have hgb : 0 ≤ g ∧ g ≤ 60 := (by omega); have HGE := Lib.hid (And.intro hg (And.intro hge hnd)); have HL9 := Lib.hid (HL.out.same (hoth mb (by have h1 := HIB.out; have h2 := HI2.out; omega))); have hg3 : getM (putM l k (g + 1)) k = g + 1 := (by rw [getM_put, if_pos rfl]); have HG3 := Lib.hid hg3; obtain ⟨wn, hwn⟩ : ∃ q, q = (if wv2 < g + 1 then g + 1 else wv2) := ⟨_, rfl⟩; have HWN := Lib.hid hwn; have e1 := hwn.symm; clear hwn hg3 hnd hcb htk hge hp hpr hit9 hbel hsz hoth hg)) | (at_lookup; first | (refine wpList_lookup_i _ rfl _ _ 179 rfl Try.underlying3 Try.underlying179 (zeroI _) mb l rfl HL9.out k rfl ?_; rw [← HGE.out.1]) | (refine wpList_lookup_i _ rfl _ _ 179 rfl Try.underlying3 Try.underlying179 (zeroI _) mb (putM l k (g + 1)) rfl HL10.out k rfl ?_; rw [HG3.out])) | (at_mapUpdate; refine wpList_update_i _ rfl _ _ _ 179 rfl Try.underlying3 Try.underlying179 mb l rfl HL9.out k (g + 1) rfl rfl ?_; intro ob hob; have HL10 := Lib.hid hob; clear hob))
              · have h9 : newer w1 w9 := HG2.out.1.trans (HBEL2.out _ (by have h1 := HIB.out; have h2 := HI2.out; have h3 := HMB.out; omega))
                have HE : Hid (newer w1 (setBlock w9 mb ob) ∧ KIter vi trV cb CL ib2 (rem2.filter fun q => decide (q ≠ k)) (setBlock w9 mb ob) ∧ LfJ mb (setBlock w9 mb ob) (cntD y.s t (Ks.take i) (k :: don2))) := Lib.hid ⟨below_setBlock h9 (by have := HMB.out; omega) ob, HIT9.out.same (setBlock_get_ne _ (by have := HIB.out; omega)) (setBlock_get_ne _ (by have h1 := HIB.out; have h2 := HI2.out; omega)), ⟨putM l k (g + 1), HL10.out, fun r => by
                  rw [getM_put]
                  by_cases e : r = k
                  · rw [if_pos e, HGE.out.2.1, e]
                    unfold cntD
                    rw [if_pos (List.mem_cons_self ..)]
                  · rw [if_neg e, HG2.out.2.2.2.1 r]
                    unfold cntD
                    simp [e]⟩⟩
                clear h9 hen
                go_roundw
                case rel =>
                  refine ⟨rem2.filter fun q => decide (q ≠ k), k :: don2, wn, rfl, HE.out.1, HE.out.2.1, fun r => ?_, fun r hr => ?_, HE.out.2.2, ?_⟩
                  · rw [HG2.out.2.1 r]
                    by_cases e : r = k
                    · simp [e, HP2.out]
                    · simp [e, List.mem_filter]
                  · have h1 := List.mem_filter.1 hr
                    have h2 := of_decide_eq_true h1.2
                    intro h3
                    rcases List.mem_cons.1 h3 with h3 | h3
                    · exact h2 h3
                    · exact HG2.out.2.2.1 r h1.1 h3
                  · have hf : cntD y.s t (Ks.take i) don2 k = g := by unfold cntD; rw [if_neg HGE.out.2.2, HGE.out.2.1]; omega
                    have h1 := Top.up (k := k) (g := cntD y.s t (Ks.take i) (k :: don2)) HG2.out.2.2.2.2 (by rw [hf]; unfold cntD; rw [if_pos (List.mem_cons_self ..), HGE.out.2.1]) (fun r hr => by unfold cntD; simp [hr])
                    rw [hf, ← HWN.out] at h1
                    exact h1
                case measure =>
                  rw [HE.out.2.1.left, HIT2.out.left]
                  exact filter_less HP2.out
              · have hf : ∀ r, cntD y.s t (Ks.take i) don2 r = cntP y.s t (Ks.take (i + 1)) r := fun r => by
                  rw [cnt_succ HKS.out]
                  unfold cntD
                  have h1 := HG2.out.2.1 r
                  rw [HALL2.out, HCLM.out r] at h1
                  have h2 := HCO.out r
                  have h3 : (∃ m ∈ don, inW y.s t m r) ↔ ∃ m ∈ al, inW y.s t m r := ⟨fun ⟨m, a, b⟩ => ⟨m, (HMM.out m).2 a, b⟩, fun ⟨m, a, b⟩ => ⟨m, (HMM.out m).1 a, b⟩⟩
                  have h4 : r ∈ don2 ↔ stakeB y.s t r ks = true := by rw [h2, ← h3, h1]; simp
                  by_cases e : r ∈ don2
                  · rw [if_pos e, if_pos (h4.1 e)]
                  · rw [if_neg e, if_neg (fun h => e (h4.2 h))]
                have HE : Hid (LfJ mb wr (cntP y.s t (Ks.take (i + 1))) ∧ Top wv2 (cntP y.s t (Ks.take (i + 1)))) := Lib.hid ⟨⟨l, HL.out, fun r => by rw [HG2.out.2.2.2.1 r, hf r]⟩, HG2.out.2.2.2.2.same fun r => (hf r).symm⟩
                have HN1 := Lib.hid HG2.out.1
                clear hf
                go_roundw
                case rel => exact ⟨i + 1, wv2, by omega, rfl, by go_num, HN1.out, HE.out.1, HE.out.2⟩
                case measure => simp [intOf]; omega

end Go.Proofs.Ytpmafnifgegfbaa
