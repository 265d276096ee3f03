/- All fields that agree, by the reference. -/
import Derived.Test.YtpmafnifgegfbaaAE
import Derived.Test.YtpmafnifgegfbaaAT
namespace Go.Proofs.Ytpmafnifgegfbaa
open Go.RowKit Go.Shelf Go.Deep

/-- A field in memory. -/
structure Fl where
  f : List Mv
  a : Option Addr
  c : Nat
def flL (x : Fl) : List Value := [.slice x.a x.f.length x.c]
theorem flL_one (x : Fl) : ∀ u ∈ flL x, u.oneCell' = true := by
  intro u hu
  obtain rfl := List.mem_singleton.1 hu
  rfl
theorem info_fl : (Try.prog.info? 34).map (fun i => (i.zero, i.size, i.bytes)) = some (some (.slice none 0 0), 1, 24) := by kernel_rfl
theorem info_rmv : (Try.prog.info? 47).map (fun i => (i.zero, i.size, i.bytes)) = some (some (.agg #[vi 0, vi 0]), 2, 16) := by kernel_rfl
/-- Fields, each in a block from B on. -/
structure FlIn (B : Nat) (xs : List Fl) (W : World) : Prop where
  ok : ∀ x ∈ xs, Row mvL 2 W W.heap.size x.a x.f
  hi : ∀ x ∈ xs, ∀ ad, x.a = some ad → B ≤ ad.block
  lt : ∀ x ∈ xs, ∀ ad, x.a = some ad → ad.block < W.heap.size
/-- Fields behind one another in a row of one's own. -/
structure FlJ (B : Nat) (L : List (List Mv)) (xs : List Fl) (A : Option Addr) (c : Nat) (W : World) : Prop where
  own : W.ownsRow B 34 1 (.slice A xs.length c) xs.length (xs.flatMap flL)
  sin : FlIn B xs W
  far : ∀ x ∈ xs, ∀ ad, x.a = some ad → (Value.slice A xs.length c).ownBlock ≠ some ad.block
  eq : xs.map (·.f) = L
theorem row_grownF {α : Type} {enc : α → List Value} {s : Nat} {w w' : World} {A : Option Addr} {l : List α} {x : Option Nat} (h : Row enc s w w.heap.size A l) (hg : w.grownBy w' x) (hne : ∀ ad, A = some ad → x ≠ some ad.block) : Row enc s w' w'.heap.size A l := by
  intro hl
  obtain ⟨b, off, rfl, hb, hc⟩ := h hl
  have hk := hg.block b hb (fun e => hne _ rfl e.symm)
  refine ⟨b, off, rfl, Nat.lt_of_lt_of_le hb hg.size, fun i y hy j u hu => ?_⟩
  rw [cell_of_same hk]
  exact hc i y hy j u hu
section
variable {B : Nat} {L : List (List Mv)} {us : List Fl} {A : Option Addr} {c : Nat} {W W' : World}
theorem FlIn.next (h : FlIn B us W) (hb : newer W W') : FlIn B us W' := ⟨fun x hx => ((h.ok x hx).below hb).more hb.size, h.hi, fun x hx ad had => Nat.lt_of_lt_of_le (h.lt x hx ad had) hb.size⟩
theorem FlIn.low {B' : Nat} (h : FlIn B us W) (hb : B' ≤ B) : FlIn B' us W := ⟨h.ok, fun x hx ad had => Nat.le_trans hb (h.hi x hx ad had), h.lt⟩
theorem FlJ.next (h : FlJ B L us A c W) (hb : newer W W') : FlJ B L us A c W' := ⟨own_below h.own hb, h.sin.next hb, h.far, h.eq⟩
theorem FlJ.none (B : Nat) (W : World) : FlJ B [] [] none 0 W := ⟨⟨rfl, .inl ⟨rfl, rfl⟩⟩, ⟨fun x hx => by simp at hx, fun x hx => by simp at hx, fun x hx => by simp at hx⟩, fun x hx => by simp at hx, rfl⟩
theorem FlJ.app (h : FlJ B L us A c W) {vs : List Fl} (hv : FlIn B vs W) (hf : ∀ x ∈ vs, ∀ ad, x.a = some ad → (Value.slice A us.length c).ownBlock ≠ some ad.block) {A' : Option Addr} {c' : Nat}
    (hown : W'.ownsRow B 34 1 (.slice A' (us.length + vs.length) c') (us.length + vs.length) (us.flatMap flL ++ vs.flatMap flL)) (hg : W.grownBy W' (Value.slice A us.length c).ownBlock)
    (hat : ∀ g, (Value.slice A' (us.length + vs.length) c').ownBlock = some g → (Value.slice A us.length c).ownBlock = some g ∨ g = W.heap.size) : FlJ B (L ++ vs.map (·.f)) (us ++ vs) A' c' W' := by
  have hall : ∀ x ∈ us ++ vs, Row mvL 2 W W.heap.size x.a x.f ∧ (∀ ad, x.a = some ad → B ≤ ad.block) ∧ (∀ ad, x.a = some ad → ad.block < W.heap.size) ∧ ∀ ad, x.a = some ad → (Value.slice A us.length c).ownBlock ≠ some ad.block := fun x hx => by
    rcases List.mem_append.1 hx with hx | hx
    · exact ⟨h.sin.ok x hx, h.sin.hi x hx, h.sin.lt x hx, h.far x hx⟩
    · exact ⟨hv.ok x hx, hv.hi x hx, hv.lt x hx, hf x hx⟩
  refine ⟨by rw [List.length_append, List.flatMap_append]; exact hown, ⟨fun x hx => row_grownF (hall x hx).1 hg (hall x hx).2.2.2, fun x hx => (hall x hx).2.1, fun x hx ad had => Nat.lt_of_lt_of_le ((hall x hx).2.2.1 ad had) hg.size⟩, fun x hx ad had e => ?_, by rw [List.map_append, h.eq]⟩
  rw [List.length_append] at e
  rcases hat _ e with e | e
  · exact (hall x hx).2.2.2 ad had e
  · have := (hall x hx).2.2.1 ad had
    omega
theorem FlJ.new (h : FlJ B L us A c W) {w : World} (hB : w.heap.size ≤ B) (hn : newer w W) (hg : W.grownBy W' (Value.slice A us.length c).ownBlock) : newer w W' := by
  cases hx : (Value.slice A us.length c).ownBlock with
  | none =>
    rw [hx] at hg
    exact newer_trans hn (below_grown hg (fun q e => by cases e) (Nat.le_refl _))
  | some k =>
    rw [hx] at hg
    exact Below.trans hn (below_of_grown hg (Nat.le_trans hB (own_ge h.own k hx)) hn.size)
/-- Fields returned, in memory. -/
def FlsAt (B : Nat) (L : List (List Mv)) (v : Value) (W : World) : Prop := ∃ (xs : List Fl) (A : Option Addr) (c : Nat), v = .slice A xs.length c ∧ Row flL 1 W W.heap.size A xs ∧ FlIn B xs W ∧ xs.map (·.f) = L
theorem FlJ.out {H : Nat} (h : FlJ B L us A c W) (hB : H ≤ B) : FlsAt H L (.slice A us.length c) W := ⟨us, A, c, rfl, row_of_own (enc := flL) (size := 1) (by decide) (fun _ => rfl) h.own, h.sin.low hB, h.eq⟩
end
def vFls (B : Nat) (L : List (List Mv)) (v : Value) (W : World) : Prop := ∃ (xs : List Fl) (A : Option Addr) (c : Nat), v = .slice A xs.length c ∧ Row flL 1 W W.heap.size A xs ∧ FlIn B xs W ∧ xs.map (·.f) = L
theorem vFls_st {B : Nat} {L : List (List Mv)} : ∀ v W W', vFls B L v W → newer W W' → vFls B L v W' := fun _ _ _ ⟨xs, A, c, h1, h2, h3, h4⟩ hb => ⟨xs, A, c, h1, (h2.below hb).more hb.size, h3.next hb, h4⟩
theorem row_snoc {W : World} {H : Nat} {B : Option Addr} {c : Nat} {bb : List Mv} {m : Mv} (h : W.ownsRow H 47 2 (.slice B (bb.length + 1) c) (bb.length + 1) (bb.flatMap mvL ++ [m].flatMap mvL)) : Row mvL 2 W W.heap.size B (bb ++ [m]) := by
  rw [← List.flatMap_append] at h
  exact row_of_own (enc := mvL) (size := 2) (by decide) (fun _ => rfl) h
theorem flat_le {α β : Type} {f : α → List β} {c : Nat} : ∀ (l : List α), (∀ x ∈ l, (f x).length ≤ c) → (l.flatMap f).length ≤ l.length * c
  | [], _ => by simp
  | x :: l, h => by
    have h1 := h x (List.mem_cons_self ..)
    have h2 := flat_le l (fun y hy => h y (List.mem_cons_of_mem _ hy))
    rw [List.flatMap_cons, List.length_append, List.length_cons, Nat.succ_mul]
    omega
theorem moves_few {s : Sd} (hs : SdOk s) {p : Sp} (hp : p ∈ s.spots) : (movesL p).length ≤ 169 := by
  obtain ⟨h1, h2⟩ := hs.spot p hp
  unfold rgOk at h1 h2
  rw [moves_len]
  exact Nat.le_trans (Nat.mul_le_mul (show wideN p.x ≤ 13 by unfold wideN; omega) (show wideN p.y ≤ 13 by unfold wideN; omega)) (by decide)
theorem fields_len {s : Sd} (hs : SdOk s) {A : List Mv → Bool} : ∀ (r : Nat) (b : List Mv), (fieldsR s A r b).length ≤ 169 ^ r
  | 0, b => by
    rw [fieldsR]
    split <;> simp
  | r + 1, b => by
    rw [fieldsR]
    split
    · rename_i p hp
      have h1 := moves_few hs (List.mem_of_getElem? hp)
      refine Nat.le_trans (flat_le (c := 169 ^ r) _ fun m _ => ?_) (by rw [Nat.pow_succ, Nat.mul_comm (169 ^ r)]; exact Nat.mul_le_mul_right _ h1)
      split
      · exact fields_len hs r _
      · split
        · exact fields_len hs r _
        · simp
    · simp
theorem own_some' {w : World} {base : Nat} {e : TypeId} {size n cap : Nat} {A : Option Addr} {xs : List Value} {ad : Addr} (h : w.ownsRow base e size (.slice A n cap) n xs) (had : A = some ad) : ∃ g, ad.block = g ∧ base ≤ g ∧ g < w.heap.size := by
  subst had
  rcases h.2 with ⟨h0, _⟩ | ⟨g, cap', cur, h', hb, hh, _⟩
  · cases h0
  · injection h' with h1
    injection h1 with h1
    subst h1
    exact ⟨g, rfl, hb, (List.getElem?_eq_some_iff.1 (by simpa using hh)).1⟩
/-- What Fields does. -/
def FieldsAt (y : Sm) (r : Nat) : Prop := ∀ (b : List Mv) (ba : Option Addr) (bc : Nat) (w : World), SmOk y w → Row mvL 2 w w.heap.size ba b → b.length + r = y.s.spots.length → (∀ m ∈ b, (-30 ≤ m.1 ∧ m.1 ≤ 30) ∧ -30 ≤ m.2 ∧ m.2 ≤ 30) → Calls Try.prog 33 #[smV y, .slice ba b.length bc] w fun e w' => (∃ (xs : List Fl) (A : Option Addr) (c : Nat), e = .returned (.slice A xs.length c) ∧ Row flL 1 w' w'.heap.size A xs ∧ FlIn w.heap.size xs w' ∧ xs.map (·.f) = fieldsR y.s (agreesB y.s) r b) ∧ newer w w'
set_option maxRecDepth 100000 in
set_option maxHeartbeats 4000000 in
theorem fields_zero (y : Sm) (hs : SdOk y.s) : FieldsAt y 0 := by
  intro b ba bc w hok hb hr hbd
  have hnw := newer_allocH w (.cells (smC y) 26)
  have hbx := Whole.made w 26 (smC y)
  have h6 := hs.spots
  have HA := Lib.hid (agreesR_any y b ba bc _ (hok.next hnw) hs ((hb.below hnw).more hnw.size) (by omega))
  have x0 := hbx.at 0 (v := .slice y.sa y.s.spots.length y.sc) rfl
  have x1 := hbx.at 1 (v := vi y.s.strain) rfl
  have x2 := hbx.at 2 (v := .slice y.ta y.s.tools.length y.tc) rfl
  have x3 := hbx.at 3 (v := vi y.s.day) rfl
  have x4 := hbx.at 4 (v := .slice y.ra y.s.reads.length y.rc) rfl
  obtain ⟨i0, hi0, hz0, hz1, hz2⟩ := info_parts info_rmv
  have HI := Lib.hid (And.intro hi0 (And.intro hz0 (And.intro hz1 hz2)))
  have HB := Lib.hid (show b.length ≤ 6 by omega)
  have HRB := Lib.hid hb
  have HF := Lib.hid (show fieldsR y.s (agreesB y.s) 0 b = if agreesB y.s b = true then [b] else [] by rw [fieldsR])
  obtain ⟨ag, hag⟩ : ∃ q, q = agreesB y.s b := ⟨_, rfl⟩
  rw [← hag] at HA HF
  obtain ⟨nb, hnb⟩ : ∃ q, q = b.length := ⟨_, rfl⟩
  rw [← hnb] at HA ⊢
  have HNB := Lib.hid hnb
  have e1 : ((nb : Int) == (y.s.spots.length : Int)) = true := by simp; omega
  have e2 : (nb == y.s.spots.length) = true := by simp; omega
  have HN := Lib.hid hnw
  clear hnw hbx hi0 hz0 hz1 hz2 hag hnb hok hb hr hbd h6
  cases ag with
  | false =>
    go_enter Try.func33, Try.ntmps33
    go_wp2_with fail
    refine (HA.out).mono ?_
    rintro e w2 ⟨rfl, hb2⟩
    have H2 := Lib.hid (newer_trans HN.out hb2)
    clear hb2 HA
    go_wp2_with fail
    go_ret
    exact ⟨⟨[], none, 0, rfl, fun h => absurd rfl h, ⟨fun x hx => by simp at hx, fun x hx => by simp at hx, fun x hx => by simp at hx⟩, by rw [HF.out]; rfl⟩, H2.out⟩
  | true =>
    go_enter Try.func33, Try.ntmps33
    go_wp2_with fail
    refine (HA.out).mono ?_
    rintro e w2 ⟨rfl, hb2⟩
    have H2 := Lib.hid (newer_trans HN.out hb2)
    have hna := newer_allocH w2 (.cells #[] 47)
    have HRA : Hid (Row mvL 2 (w2.alloc (.cells #[] 47)) (w2.alloc (.cells #[] 47)).heap.size ba b) := Lib.hid (by have h := newer_trans H2.out hna; exact (HRB.out.below h).more h.size)
    have HS2 : Hid (w.heap.size ≤ w2.heap.size ∧ w.heap.size ≤ (w2.alloc (.cells #[] 47)).heap.size) := Lib.hid (by have h := H2.out.size; exact ⟨h, Nat.le_trans h hna.size⟩)
    have HN2 := Lib.hid (newer_trans H2.out hna)
    clear hb2 HA hna
    clear e1 e2
    go_wp2_with (at_builtin; go_loud ((refine wpList_plain rfl fun _ hK => wp_append_owncopy (enc := mvL) (size := 2) w.heap.size (.tmp 19) (.tmp 20) 34 47 i0 (.agg #[vi 0, vi 0]) 16 Try.underlying34 HI.out.1 HI.out.2.1 HI.out.2.2.1 HI.out.2.2.2 rfl (by omega) (by omega) (fun _ => rfl) rfl w2.heap.size rfl HS2.out.1 (Whole.made _ _ _) b ba bc (by rw [← HNB.out]; rfl) (by have := HB.out; omega) HRA.out HS2.out.2 fun B c w7 hown hb hlt => hK _ _ ?_); rw [← HNB.out]; have HO7 := Lib.hid hown; have HB7 := Lib.hid (newer_trans HN2.out hb); have HV7 : Hid (Whole (w7.alloc (.cells #[.slice B nb c] 34)) w7.heap.size 34 #[.slice B nb c]) := Lib.hid (Whole.made _ _ _); have HN7 := Lib.hid (newer_allocH w7 (.cells #[.slice B nb c] 34)); clear hown hb hlt))
    go_ret
    refine ⟨⟨[⟨b, B, c⟩], some ⟨w7.heap.size, 0, none⟩, 1, rfl, row_of_whole (enc := flL) (s := 1) (fun _ => rfl) HV7.out (by rw [HNB.out]; rfl), ⟨fun x hx => ?_, fun x hx ad had => ?_, fun x hx ad had => ?_⟩, by rw [HF.out]; rfl⟩, newer_trans HB7.out HN7.out⟩
    all_goals obtain rfl := List.mem_singleton.1 hx
    · have h := row_of_own (enc := mvL) (size := 2) (by decide) (fun _ => rfl) HO7.out
      exact (h.below HN7.out).more HN7.out.size
    · obtain ⟨g, h1, h2⟩ := own_some' HO7.out had
      omega
    · obtain ⟨g, h1, h2, h3⟩ := own_some' HO7.out had
      have := HN7.out.size
      omega
set_option maxRecDepth 100000 in
set_option maxHeartbeats 8000000 in
theorem fields_step (y : Sm) (hs : SdOk y.s) (h3 : y.s.spots.length ≤ 3) (q : Nat) (ih : FieldsAt y q) : FieldsAt y (q + 1) := by
  intro bb ba bc w hok hb hr hbd
  obtain ⟨p, hp⟩ : ∃ p, y.s.spots[bb.length]? = some p := ⟨_, List.getElem?_eq_getElem (by omega)⟩
  obtain ⟨g, hg⟩ : ∃ g : Mv → List (List Mv), g = fun m => match bb.getLast? with
    | none => fieldsR y.s (agreesB y.s) q (bb ++ [m])
    | some o => if nearB y.s.strain o m then fieldsR y.s (agreesB y.s) q (bb ++ [m]) else [] := ⟨_, rfl⟩
  obtain ⟨LL, hLL⟩ : ∃ LL : Nat → List (List Mv), LL = fun k => ((movesL p).take k).flatMap g := ⟨_, rfl⟩
  obtain ⟨nx, hx⟩ : ∃ n, n = wideN p.x := ⟨_, rfl⟩
  obtain ⟨ny, hy⟩ : ∃ n, n = wideN p.y := ⟨_, rfl⟩
  have hpr := hs.spot p (List.mem_of_getElem? hp)
  unfold rgOk at hpr
  have hnx : (nx : Int) = p.x.hi - p.x.lo + 1 := by rw [hx]; unfold wideN; omega
  have hny : (ny : Int) = p.y.hi - p.y.lo + 1 := by rw [hy]; unfold wideN; omega
  have hq : 169 ^ q ≤ 28561 := Nat.le_trans (Nat.pow_le_pow_right (by decide) (show q ≤ 2 by omega)) (by decide)
  have hgb : ∀ m, (g m).length ≤ 28561 := fun m => by
    have h1 := Nat.le_trans (fields_len hs (A := agreesB y.s) q (bb ++ [m])) hq
    rw [hg]
    dsimp only
    split
    · exact h1
    · split
      · exact h1
      · simp
  have HGB := Lib.hid hgb
  have HFB0 := Lib.hid (fun m => Nat.le_trans (fields_len hs (A := agreesB y.s) q (bb ++ [m])) hq)
  have HLB : Hid (∀ k, (LL k).length ≤ 4826809) := Lib.hid (fun k => by
    rw [hLL]
    have h1 := flat_le (c := 28561) ((movesL p).take k) (fun m _ => hgb m)
    have h2 : ((movesL p).take k).length ≤ 169 := by
      have h3 := moves_few hs (List.mem_of_getElem? hp)
      rw [List.length_take]
      omega
    exact Nat.le_trans h1 (Nat.le_trans (Nat.mul_le_mul_right _ h2) (by decide)))
  have HL0 : Hid (LL 0 = []) := Lib.hid (by rw [hLL]; rfl)
  have HLS : Hid (∀ i j, i < nx → j < ny → LL (i * ny + j + 1) = LL (i * ny + j) ++ g (p.x.lo + (i : Int), p.y.lo + (j : Int))) := Lib.hid (fun i j hi hj => by
    have h1 : (movesL p)[i * ny + j]? = some (p.x.lo + (i : Int), p.y.lo + (j : Int)) := by rw [hy]; exact moves_at (by rw [← hx]; exact hi) (by rw [← hy]; exact hj)
    rw [hLL]
    dsimp only
    rw [List.take_add_one, h1, List.flatMap_append]
    simp)
  have HLF : Hid (LL (nx * ny) = fieldsR y.s (agreesB y.s) (q + 1) bb) := Lib.hid (by
    rw [hLL, fieldsR, hp, hg]
    dsimp only
    rw [List.take_of_length_le (by rw [moves_len, ← hx, ← hy]; exact Nat.le_refl _)]
    congr 1)
  have HGN : Hid (bb = [] → ∀ m, g m = fieldsR y.s (agreesB y.s) q (bb ++ [m])) := Lib.hid (fun e m => by rw [hg, e]; rfl)
  have HGL : Hid (∀ o, bb.getLast? = some o → ∀ m, g m = if nearB y.s.strain o m then fieldsR y.s (agreesB y.s) q (bb ++ [m]) else []) := Lib.hid (fun o e m => by rw [hg]; dsimp only; rw [e])
  obtain ⟨sb, so, es, hsb, p0, p1, p2, p3⟩ := row4 hok.sp hp
  have HIH : Hid (∀ (m : Mv) (B : Option Addr) (c : Nat) (W : World), newer w W → Row mvL 2 W W.heap.size B (bb ++ [m]) → ((-30 ≤ m.1 ∧ m.1 ≤ 30) ∧ -30 ≤ m.2 ∧ m.2 ≤ 30) → Calls Try.prog 33 #[smV y, .slice B (bb.length + 1) c] W fun e w' => (∃ (xs : List Fl) (A : Option Addr) (c : Nat), e = .returned (.slice A xs.length c) ∧ Row flL 1 w' w'.heap.size A xs ∧ FlIn W.heap.size xs w' ∧ xs.map (·.f) = fieldsR y.s (agreesB y.s) q (bb ++ [m])) ∧ newer W w') := Lib.hid (fun m B c W hW hRw hm => by
    have h := ih (bb ++ [m]) B c W (hok.next hW) hRw (by rw [List.length_append, List.length_singleton]; omega) (fun x hx => by
      rcases List.mem_append.1 hx with hx | hx
      · exact hbd x hx
      · obtain rfl := List.mem_singleton.1 hx
        exact hm)
    rw [List.length_append, List.length_singleton] at h
    exact h)
  have HOK := Lib.hid hok
  have HRB0 := Lib.hid hb
  have HBD := Lib.hid hbd
  have HPR := Lib.hid hpr
  obtain ⟨i0, hi0, hz0, hz1, hz2⟩ := info_parts info_rmv
  have HI := Lib.hid (And.intro hi0 (And.intro hz0 (And.intro hz1 hz2)))
  clear hi0 hz0 hz1 hz2
  obtain ⟨i1, hi0, hz0, hz1, hz2⟩ := info_parts info_fl
  have HI1 := Lib.hid (And.intro hi0 (And.intro hz0 (And.intro hz1 hz2)))
  obtain ⟨n0, hn0⟩ : ∃ q, q = bb.length := ⟨_, rfl⟩
  rw [← hn0] at p0 p1 p2 p3 ⊢
  have HPC := Lib.hid (And.intro p0 (And.intro p1 (And.intro p2 p3)))
  have HES := Lib.hid es
  have HBL := Lib.hid (show bb.length = n0 ∧ n0 ≤ 6 from ⟨hn0.symm, by omega⟩)
  have e1 : ((n0 : Int) == (y.s.spots.length : Int)) = false := by simp; omega
  have e2 : (n0 == y.s.spots.length) = false := by simp; omega
  have e4 : n0 < y.s.spots.length := by omega
  have e5 : (n0 : Int) < (y.s.spots.length : Int) := by omega
  have HNX := Lib.hid (And.intro hnx hny)
  clear hnx hny hpr hgb hq hi0 hz0 hz1 hz2 hok hb hr hbd hp hg hLL hx hy es hsb hn0 ih h3 hs p0 p1 p2 p3
  by_cases hz : n0 = 0
  · have HZ := Lib.hid hz
    have HBE := Lib.hid (List.eq_nil_of_length_eq_zero (HBL.out.1.trans hz))
    clear hz
    go_enter Try.func33, Try.ntmps33
    go_upto_region 1 with fail
    refine genQ (fun X => X.heap.size = w.heap.size + 1 ∧ newer w X ∧ Whole X w.heap.size 26 (smC y)) ⟨World.size_alloc _ _, newer_allocH _ _, Whole.made _ _ _⟩ ?_
    rintro w1 ⟨hs1, hn1, hx1⟩
    have x0 := hx1.at 0 (v := .slice y.sa y.s.spots.length y.sc) rfl
    have x1 := hx1.at 1 (v := vi y.s.strain) rfl
    have x2 := hx1.at 2 (v := .slice y.ta y.s.tools.length y.tc) rfl
    have x3 := hx1.at 3 (v := vi y.s.day) rfl
    have x4 := hx1.at 4 (v := .slice y.ra y.s.reads.length y.rc) rfl
    rw [HES.out] at x0
    have p0 := keep_cell HPC.out.1 hn1
    have p1 := keep_cell HPC.out.2.1 hn1
    have p2 := keep_cell HPC.out.2.2.1 hn1
    have p3 := keep_cell HPC.out.2.2.2 hn1
    have hna := newer_allocH w1 (.cells (spC p) 73)
    have HN0S : Hid (w.heap.size + 2 ≤ (w1.alloc (.cells (spC p) 73)).heap.size ∧ w1.heap.size < w.heap.size + 2 ∧ w.heap.size + 1 ≤ w1.heap.size) := Lib.hid (by rw [World.size_alloc]; omega)
    have H0 := Lib.hid (And.intro (newer_trans hn1 hna) (And.intro (hx1.below hna hx1.lt) (Whole.made w1 73 (spC p))))
    clear hs1 hn1 hx1 hna
    go_wp2_with fail
    try go_frame
    obtain ⟨pb, hpb⟩ : ∃ v, v = w1.heap.size := ⟨_, rfl⟩
    rw [← hpb] at H0 HN0S ⊢
    have HPB := Lib.hid (show pb < w.heap.size + 2 by have := HN0S.out; omega)
    clear x0 x1 x2 x3 x4 p0 p1 p2 p3 e1 e2 e4 e5 hpb
    go_loopw [5, 7] (fun s5 s7 wr => ∃ (i : Nat) (us : List Fl) (A : Option Addr) (c : Nat), i ≤ nx ∧ s5 = .slice A us.length c ∧ s7 = vi (p.x.lo + (i : Int)) ∧ FlJ (w.heap.size + 2) (LL (i * ny)) us A c wr ∧ newer w wr ∧ Whole wr w.heap.size 26 (smC y) ∧ Whole wr pb 73 (spC p) ∧ w.heap.size + 2 ≤ wr.heap.size) (fun _ s7 _ => (p.x.hi + 1 - intOf s7).toNat)
    case atStart => exact ⟨0, [], none, 0, Nat.zero_le _, rfl, by simp, by rw [Nat.zero_mul, HL0.out]; exact FlJ.none _ _, H0.out.1, H0.out.2.1, H0.out.2.2, HN0S.out.1⟩
    case round =>
      obtain ⟨i, us, A, c, hi, rfl, rfl, hj, q2, q3, q4, q5⟩ := hrel
      obtain ⟨xv, hxv⟩ : ∃ v, v = p.x.lo + (i : Int) := ⟨_, rfl⟩
      rw [← hxv]
      have HXV := Lib.hid hxv
      have HJ1 := Lib.hid (And.intro hj (And.intro q2 (And.intro q3 (And.intro q4 q5))))
      have s0 := q4.at 0 (v := vi p.x.lo) rfl
      have s1 := q4.at 1 (v := vi p.x.hi) rfl
      have s2 := q4.at 2 (v := vi p.y.lo) rfl
      have s3 := q4.at 3 (v := vi p.y.hi) rfl
      clear hj q2 q3 q4 q5 hxv H0 HN0S
      by_cases hlt : i < nx
      · have hxle : xv ≤ p.x.hi := by rw [HXV.out]; have := HNX.out; omega
        have hxw : IntKind.i64.wrap (xv + 1) = xv + 1 := IntWalk.i64_in _ (by have := HPR.out; have := HXV.out; omega)
        have HIX := Lib.hid hlt
        clear hlt hi
        go_wp2_with fail
        try go_frame
        clear s0 s1 s2 s3
        go_loopw [5, 8] (fun s5 s8 wr => ∃ (j : Nat) (us : List Fl) (A : Option Addr) (c : Nat), j ≤ ny ∧ s5 = .slice A us.length c ∧ s8 = vi (p.y.lo + (j : Int)) ∧ FlJ (w.heap.size + 2) (LL (i * ny + j)) us A c wr ∧ newer w wr ∧ Whole wr w.heap.size 26 (smC y) ∧ Whole wr pb 73 (spC p) ∧ w.heap.size + 2 ≤ wr.heap.size) (fun _ s8 _ => (p.y.hi + 1 - intOf s8).toNat)
        case atStart => exact ⟨0, us, A, c, Nat.zero_le _, rfl, by simp, HJ1.out.1, HJ1.out.2.1, HJ1.out.2.2.1, HJ1.out.2.2.2.1, HJ1.out.2.2.2.2⟩
        case round =>
          clear HJ1
          obtain ⟨j, us, A, c, hjle, rfl, rfl, hj, q2, q3, q4, q5⟩ := hrel
          obtain ⟨yv, hyv⟩ : ∃ v, v = p.y.lo + (j : Int) := ⟨_, rfl⟩
          rw [← hyv]
          have HYV := Lib.hid hyv
          have HJ := Lib.hid hj
          have HQ := Lib.hid (And.intro q2 (And.intro q3 q4))
          have HN0 := Lib.hid q5
          have s0 := q4.at 0 (v := vi p.x.lo) rfl
          have s1 := q4.at 1 (v := vi p.x.hi) rfl
          have s2 := q4.at 2 (v := vi p.y.lo) rfl
          have s3 := q4.at 3 (v := vi p.y.hi) rfl
          clear hj q2 q3 q4 q5 hyv
          by_cases hlt : j < ny
          · have hyle : yv ≤ p.y.hi := by rw [HYV.out]; have := HNX.out; omega
            have hyw : IntKind.i64.wrap (yv + 1) = yv + 1 := IntWalk.i64_in _ (by have := HPR.out; have := HYV.out; omega)
            have HIJ := Lib.hid (And.intro HIX.out hlt)
            clear hlt
            go_wp2_with fail
            go_upto_region 14 with fail
            obtain ⟨mb, hmb⟩ : ∃ v, v = wr.heap.size := ⟨_, rfl⟩
            rw [← hmb]
            obtain ⟨m, hm⟩ : ∃ m : Mv, m = (xv, yv) := ⟨_, rfl⟩
            have hna := newer_allocH wr (.cells #[vi xv, vi yv] 47)
            refine genQ (fun X => newer wr X ∧ newer w X ∧ Whole X w.heap.size 26 (smC y) ∧ Whole X pb 73 (spC p) ∧ Whole X mb 47 (mvC m)) ⟨hna, newer_trans HQ.out.1 hna, HQ.out.2.1.below hna HQ.out.2.1.lt, HQ.out.2.2.below hna HQ.out.2.2.lt, by rw [hmb, hm]; exact Whole.made _ _ _⟩ ?_
            have HMD := Lib.hid (show m = (p.x.lo + (i : Int), p.y.lo + (j : Int)) by rw [hm, HXV.out, HYV.out])
            have HMB := Lib.hid (show (-30 ≤ m.1 ∧ m.1 ≤ 30) ∧ -30 ≤ m.2 ∧ m.2 ≤ 30 by rw [hm]; have h1 := HXV.out; have h2 := HYV.out; have h3 := HPR.out; have h4 := HNX.out; have h5 := HIJ.out; dsimp only; omega)
            clear hna hmb hm s0 s1 s2 s3
            rintro w3 ⟨hn3, hn4, hx3, hp3, hm3⟩
            have H3 := Lib.hid (And.intro hn3 (And.intro hn4 (And.intro hx3 (And.intro hp3 hm3))))
            have x0 := hx3.at 0 (v := .slice y.sa y.s.spots.length y.sc) rfl
            have x1 := hx3.at 1 (v := vi y.s.strain) rfl
            have x2 := hx3.at 2 (v := .slice y.ta y.s.tools.length y.tc) rfl
            have x3 := hx3.at 3 (v := vi y.s.day) rfl
            have x4 := hx3.at 4 (v := .slice y.ra y.s.reads.length y.rc) rfl
            have z0 := hm3.at 0 (v := vi m.1) rfl
            have z1 := hm3.at 1 (v := vi m.2) rfl
            clear hn3 hn4 hx3 hp3 hm3
            have HGE := Lib.hid (HGN.out HBE.out m)
            refine wp_words (by kernel_rfl) (region_told_u 13 (by kernel_rfl) (by kernel_rfl) [false, false, false, false, true, true, true, true, true, true, true, true, true] (fun W => Below w3.heap.size w3 W) newer [vIs (.slice ba n0 bc), vIs (vi n0), vIs (.bool true), vIs (.bool true), vIs (undef), vIs (undef), vIs (undef), vIs (undef), vIs (undef), vIs (undef), vIs (undef), vIs (undef), vIs (undef)] ⟨rfl, rfl, rfl, rfl, (fun v W h => by obtain rfl : v = _ := h; simp), (fun v W h => by obtain rfl : v = _ := h; simp), (fun v W h => by obtain rfl : v = _ := h; simp), (fun v W h => by obtain rfl : v = _ := h; simp), (fun v W h => by obtain rfl : v = _ := h; simp), (fun v W h => by obtain rfl : v = _ := h; simp), (fun v W h => by obtain rfl : v = _ := h; simp), (fun v W h => by obtain rfl : v = _ := h; simp), (fun v W h => by obtain rfl : v = _ := h; simp), trivial⟩ ⟨(fun h => Bool.noConfusion (show false = true from h)), (fun h => Bool.noConfusion (show false = true from h)), (fun h => Bool.noConfusion (show false = true from h)), (fun h => Bool.noConfusion (show false = true from h)), (fun _ _ => rfl), (fun _ _ => rfl), (fun _ _ => rfl), (fun _ _ => rfl), (fun _ _ => rfl), (fun _ _ => rfl), (fun _ _ => rfl), (fun _ _ => rfl), (fun _ _ => rfl), trivial⟩ (fun h k => newer_trans h k) (pickD_stable _ ⟨vIs_st, vIs_st, vIs_st, vIs_st, vIs_st, vIs_st, vIs_st, vIs_st, vIs_st, vIs_st, vIs_st, vIs_st, vIs_st, trivial⟩) (Below.refl _ w3).drew (Below.refl _ _) ?_ ?_)
            · refine ⟨.inr ?_, .inr ?_, .inr ?_, .inr ?_, .inl rfl, .inl rfl, .inl rfl, .inl rfl, .inl rfl, .inl rfl, .inl rfl, .inl rfl, .inl rfl, trivial⟩
              · exact fun a W hG _ hO _ => kM 1 rfl (hO.slot 1 (by kernel_rfl)) rfl hG
              · intro a W hG hR hO hp
                have h52 : slotOf a 52 = .slice ba n0 bc := hp.1
                refine kY (v := vi n0) hG rfl ?_
                simp [slotOf] at h52
                simp [go_sem, h52]
              · intro a W hG hR hO hp
                have h53 : slotOf a 53 = vi n0 := hp.1
                refine kY (v := .bool true) hG rfl ?_
                simp [slotOf] at h53
                simp [execOp, go_sem, h53, HZ.out]
              · exact fun a W hG _ _ hp => kM 54 rfl hp.1 rfl hG
            · intro w4 hG hR
              rintro _ rfl _ rfl _ rfl _ rfl _ rfl _ rfl _ rfl _ rfl _ rfl _ rfl _ rfl _ rfl _ rfl
              change wpList _ _ _ _ _ _
              simp only [Act.put, List.setIfInBounds_toArray, List.set_cons_zero, List.set_cons_succ, List.drop_succ_cons, List.drop_zero]
              replace H3 := Lib.hid (And.intro (newer_trans H3.out.1 hG) (And.intro (newer_trans H3.out.2.1 hG) (And.intro (H3.out.2.2.1.below hG H3.out.2.2.1.lt) (And.intro (H3.out.2.2.2.1.below hG H3.out.2.2.2.1.lt) (H3.out.2.2.2.2.below hG H3.out.2.2.2.2.lt)))))
              replace x0 := keep_cell x0 hG
              replace x1 := keep_cell x1 hG
              replace x2 := keep_cell x2 hG
              replace x3 := keep_cell x3 hG
              replace x4 := keep_cell x4 hG
              replace z0 := keep_cell z0 hG
              replace z1 := keep_cell z1 hG
              clear hG
              have HRB : Hid (∀ W, newer w4 W → Row mvL 2 W W.heap.size ba bb) := Lib.hid (fun W hW => by rw [HBE.out]; intro h; exact absurd rfl h)
              go_wp2_with fail
              go_upto_region 15 with fail
              refine wp_words (by kernel_rfl) (region_turn 9 7 (by kernel_rfl) (by kernel_rfl) (by decide) (fun _ W => Below w4.heap.size w4 W) (pickB [vIs (.slice A us.length c), vIs (smV y), vEmpT w4.heap.size 47, vIs (.slice ba n0 bc), vOwn w4.heap.size 47 2 mvL bb, vIs (mvV m), vOne w4.heap.size 47 (mvC m), (fun _ _ => False), (fun _ _ => False)] [vIs (.slice A us.length c), vIs (smV y), (fun _ _ => True), vIs (.slice ba n0 bc), (fun _ _ => True), vIs (mvV m), (fun _ _ => True), vOwnV w4.heap.size 47 2 (bb.length + 1) (bb.flatMap mvL ++ [m].flatMap mvL), vFls w4.heap.size (fieldsR y.s (agreesB y.s) q (bb ++ [m]))]) (pickB_stable ⟨vIs_st, vIs_st, vEmpT_st, vIs_st, vOwn_st, vIs_st, vOne_st, (fun _ _ _ h _ => h), (fun _ _ _ h _ => h), trivial⟩ ⟨vIs_st, vIs_st, (fun _ _ _ h _ => h), vIs_st, (fun _ _ _ h _ => h), vIs_st, (fun _ _ _ h _ => h), vOwnV_st, vFls_st, trivial⟩) (Below.refl _ w4).drew ?_ ?_)
              · refine ⟨?_, ?_, ?_, ?_, ?_, ?_, ?_, ?_, ?_, trivial⟩
                · intro b a W hG hO hp
                  have h5 := hO.slot 5 (by kernel_rfl)
                  refine wp_yields (v := .slice A us.length c) ?_ ⟨_, rfl, (by cases b <;> rfl), Below.refl _ _, hG⟩
                  simp [slotOf] at h5
                  simp [execOp, go_sem, h5]
                · intro b a W hG hO hp
                  have h2 := hO.slot 2 (by kernel_rfl)
                  have c0 := keep_cell x0 hG
                  have c1 := keep_cell x1 hG
                  have c2 := keep_cell x2 hG
                  have c3 := keep_cell x3 hG
                  have c4 := keep_cell x4 hG
                  refine wp_yields (v := smV y) ?_ ⟨_, rfl, (by cases b <;> rfl), Below.refl _ _, hG⟩
                  simp [slotOf] at h2
                  simp [execOp, go_sem, h2, c0, c1, c2, c3, c4]
                · intro b a W hG hO hp
                  refine wp_makes (v := .slice (some ⟨W.heap.size, 0, none⟩) 0 0) (W' := W.alloc (.cells #[] 47)) ?_ ⟨_, rfl, (by cases b with | false => exact ⟨_, rfl, hG.size, Whole.made _ _ _⟩ | true => trivial), newer_allocH _ _, below_next hG (newer_allocH _ _)⟩
                  skip
                  simp [execOp, go_sem]
                · intro b a W hG hO hp
                  have h1 := hO.slot 1 (by kernel_rfl)
                  refine wp_yields (v := .slice ba n0 bc) ?_ ⟨_, rfl, (by cases b <;> rfl), Below.refl _ _, hG⟩
                  simp [slotOf] at h1
                  simp [execOp, go_sem, h1]
                · intro a W hG hO hp
                  have h68 := hp.1
                  have h69 : slotOf a 69 = .slice ba n0 bc := hp.2.1
                  obtain ⟨nb, h68, hnb, hW⟩ := h68
                  obtain ⟨hi0, hz0, hz1, hz2⟩ := HI.out
                  refine wp_append_owncopy (enc := mvL) (size := 2) w4.heap.size (.tmp 68) (.tmp 69) 34 47 i0 (.agg #[vi 0, vi 0]) 16 Try.underlying34 hi0 hz0 hz1 hz2 rfl (by omega) (by omega) (fun _ => rfl) rfl nb ((eval_slot a 68).trans h68) hnb hW bb ba bc (((eval_slot a 69).trans h69).trans (by rw [HBL.out.1])) (by have := HBL.out; omega) (HRB.out W hG) hG.size ?_
                  intro B c' w' hown hb hlt
                  exact ⟨_, rfl, ⟨B, c', rfl, hown⟩, hb, below_next hG hb⟩
                · intro b a W hG hO hp
                  have h9 := hO.slot 9 (by kernel_rfl)
                  have c0 := keep_cell z0 hG
                  have c1 := keep_cell z1 hG
                  refine wp_yields (v := mvV m) ?_ ⟨_, rfl, (by cases b <;> rfl), Below.refl _ _, hG⟩
                  simp [slotOf] at h9
                  simp [execOp, go_sem, h9, c0, c1]
                · intro a W hG hO hp
                  have h71 : slotOf a 71 = mvV m := hp.1
                  refine wp_makes (v := .slice (some ⟨W.heap.size, 0, none⟩) 1 1) (W' := W.alloc (.cells #[vi m.1, vi m.2] 47)) ?_ ⟨_, rfl, ⟨_, rfl, hG.size, Whole.made _ _ _⟩, newer_allocH _ _, below_next hG (newer_allocH _ _)⟩
                  simp [slotOf] at h71
                  simp [execOp, go_sem, h71]
                · intro a W hG hO hp
                  have h70 := hp.1
                  have h72 := hp.2.1
                  obtain ⟨A, c, h70, ho⟩ := h70
                  obtain ⟨nb, h72, hnb, hW⟩ := h72
                  obtain ⟨hi0, hz0, hz1, hz2⟩ := HI.out
                  refine wp_append_all (enc := mvL) (size := 2) (w4.heap.size) (.tmp 70) (.tmp 72) 34 47 i0 (.agg #[vi 0, vi 0]) 16 Try.underlying34 hi0 hz0 hz1 hz2 rfl (by omega) (fun _ => rfl) mvL_one rfl A bb.length c (bb.flatMap mvL) ((eval_slot a 70).trans h70) ho [m] (some ⟨nb, 0, none⟩) 1 ((eval_slot a 72).trans h72) (row_of_whole (enc := mvL) (s := 2) (fun _ => rfl) hW rfl) (by have := HBL.out; unfold maxLen; simp only [List.length_singleton]; omega) (by have := HBL.out; simp only [List.length_singleton]; omega) hG.size ?_
                  intro B c' w2 hown hgr hat
                  exact ⟨_, rfl, ⟨B, c', rfl, hown⟩, below_row hG ho hgr (Nat.le_refl _), fun j hj u hD => by
                    match j, hj, hD with
                    | 0, _, hD =>
                      exact hD
                    | 1, _, hD =>
                      exact hD
                    | 2, _, _ => trivial
                    | 3, _, hD =>
                      exact hD
                    | 4, _, _ => trivial
                    | 5, _, hD =>
                      exact hD
                    | 6, _, _ => trivial
                    | 7, hj, _ => exact absurd rfl hj
                    | 8, _, hD =>
                      exact hD.elim
                    | (_ + 9), _, hD => exact hD⟩
                · intro b a W hG hO hp
                  cases b with
                  | false => exact (hp.2.1 : False).elim
                  | true =>
                    have h67 : slotOf a 67 = smV y := hp.1
                    have h73 := hp.2.1
                    obtain ⟨B, c', h73, ho⟩ := h73
                    refine wp_enters (f := 33) (args := #[smV y, .slice B (bb.length + 1) c']) ?_ ((HIH.out m B c' W (newer_trans H3.out.2.1 hG) (row_snoc ho) HMB.out).mono ?_)
                    · simp [slotOf] at h67 h73
                      simp [go_sem, h67, h73]
                    · rintro e w' ⟨⟨vs, A2, c2, rfl, hrv, hvi, hve⟩, hb⟩
                      exact ⟨_, rfl, _, rfl, ⟨vs, A2, c2, rfl, hrv, hvi.low hG.size, hve⟩, hb, below_next hG hb⟩
              · intro w5 hG
                rintro _ rfl _ rfl _ - _ rfl _ - _ rfl _ - _ - _ ⟨vs, A2, c2, rfl, hrv, hvi, hve⟩
                change wpList _ _ _ _ _ _
                simp only [Act.put, List.setIfInBounds_toArray, List.set_cons_zero, List.set_cons_succ, List.drop_succ_cons, List.drop_zero]
                have HR2 := Lib.hid (And.intro hrv (And.intro hvi hve))
                have HJ2 := Lib.hid (And.intro (HJ.out.next (newer_trans H3.out.1 hG)) (And.intro (newer_trans H3.out.2.1 hG) (And.intro (H3.out.2.2.1.below hG H3.out.2.2.1.lt) (And.intro (H3.out.2.2.2.1.below hG H3.out.2.2.2.1.lt) hG.size))))
                have HFB := Lib.hid (show us.length ≤ 4826809 ∧ vs.length ≤ 28561 from ⟨by have h1 := congrArg List.length HJ.out.eq; rw [List.length_map] at h1; rw [h1]; exact HLB.out _, by have h1 := congrArg List.length hve; rw [List.length_map] at h1; rw [h1]; exact HFB0.out m⟩)
                have HFR : Hid (∀ x ∈ vs, ∀ ad, x.a = some ad → (Value.slice A us.length c).ownBlock ≠ some ad.block) := Lib.hid (fun x hx ad had e => by
                  have h1 := own_lt (own_below HJ.out.own H3.out.1) _ e
                  have h2 := hvi.hi x hx ad had
                  omega)
                have HSZ5 := Lib.hid (show w.heap.size + 2 ≤ w5.heap.size by have h1 := hG.size; have h2 := H3.out.1.size; have h3 := HN0.out; omega)
                clear hrv hvi hve hG x0 x1 x2 x3 x4 z0 z1
                go_wp2_with (at_builtin; go_loud ((refine wpList_plain rfl fun _ hK => wp_append_all (enc := flL) (size := 1) (w.heap.size + 2) (.tmp 66) (.tmp 74) 67 34 i1 (.slice none 0 0) 24 Try.underlying67 HI1.out.1 HI1.out.2.1 HI1.out.2.2.1 HI1.out.2.2.2 rfl (by omega) (fun _ => rfl) flL_one rfl A us.length c (us.flatMap flL) rfl HJ2.out.1.own vs A2 c2 rfl HR2.out.1 (by have := HFB.out; unfold maxLen; omega) (by have := HFB.out; omega) HSZ5.out fun B c3 w6 hown hgr hat => hK _ _ ?_); have HE := Lib.hid (And.intro (HJ2.out.1.app (HR2.out.2.1.low (by have h2 := H3.out.1.size; have h3 := HN0.out; omega)) HFR.out hown hgr hat) (And.intro (HJ2.out.1.new (w := w) (Nat.le_add_right _ _) HJ2.out.2.1 hgr) (And.intro (HJ2.out.2.2.1.grown hgr (fun e => by have := own_ge HJ2.out.1.own _ e.symm; omega)) (HJ2.out.2.2.2.1.grown hgr (fun e => by have := own_ge HJ2.out.1.own _ e.symm; have := HPB.out; omega))))); have HSZ := Lib.hid hgr.size; clear hown hgr hat))
                go_roundw
                case rel =>
                  refine ⟨j + 1, us ++ vs, B, c3, by have := HIJ.out; omega, by rw [List.length_append], by rw [HYV.out]; go_num, ?_, HE.out.2.1, HE.out.2.2.1, HE.out.2.2.2, by have := HSZ5.out; have := HSZ.out; omega⟩
                  have h1 := HE.out.1
                  rw [HR2.out.2.2] at h1
                  rw [← Nat.add_assoc, HLS.out i j HIJ.out.1 HIJ.out.2, ← HMD.out, HGE.out]
                  exact h1
                case measure => simp [intOf]; have := HYV.out; omega
          · obtain rfl : j = ny := by omega
            have hyle : ¬ yv ≤ p.y.hi := by rw [HYV.out]; have := HNX.out; omega
            go_wp2_with fail
            go_roundw
            case rel => exact ⟨i + 1, us, A, c, by have := HIX.out; omega, rfl, by rw [HXV.out]; go_num, by rw [Nat.succ_mul]; exact HJ.out, HQ.out.1, HQ.out.2.1, HQ.out.2.2, HN0.out⟩
            case measure => simp [intOf]; have := HXV.out; omega
      · obtain rfl : i = nx := by omega
        have hxle : ¬ xv ≤ p.x.hi := by rw [HXV.out]; have := HNX.out; omega
        go_wp2_with fail
        go_ret
        rw [HLF.out] at HJ1
        obtain ⟨xs, A', c', h1, h2, h3, h4⟩ := HJ1.out.1.out (H := w.heap.size) (Nat.le_add_right _ _)
        refine ⟨?_, HJ1.out.2.1⟩
        first | exact ⟨xs, A', c', congrArg Ending.returned h1, h2, h3, h4⟩ | exact ⟨xs, A', ⟨c', congrArg Ending.returned h1⟩, h2, h3, h4⟩
  · obtain ⟨k, hk⟩ : ∃ k, n0 = k + 1 := ⟨n0 - 1, by omega⟩
    have hkn : (k : Int) < n0 := by omega
    have hkw : IntKind.i64.wrap ((n0 : Int) - 1) = (k : Int) := by rw [show (n0 : Int) - 1 = k by omega]; exact IntWalk.i64_in _ (by have := HBL.out; omega)
    have hn0 : ¬ n0 = 0 := hz
    obtain ⟨o, ho⟩ : ∃ o, bb[k]? = some o := ⟨_, List.getElem?_eq_getElem (by have := HBL.out.1; omega)⟩
    have HLA : Hid (bb.getLast? = some o) := Lib.hid (by rw [List.getLast?_eq_getElem?, HBL.out.1, hk]; exact ho)
    have HOB := Lib.hid (HBD.out o (List.mem_of_getElem? ho))
    obtain ⟨fb, fo, rfl, -, o0, o1⟩ := row2 HRB0.out ho
    have HOC := Lib.hid (And.intro o0 o1)
    clear ho o0 o1 hk hz
    go_enter Try.func33, Try.ntmps33
    go_upto_region 1 with fail
    refine genQ (fun X => X.heap.size = w.heap.size + 1 ∧ newer w X ∧ Whole X w.heap.size 26 (smC y)) ⟨World.size_alloc _ _, newer_allocH _ _, Whole.made _ _ _⟩ ?_
    rintro w1 ⟨hs1, hn1, hx1⟩
    have x0 := hx1.at 0 (v := .slice y.sa y.s.spots.length y.sc) rfl
    have x1 := hx1.at 1 (v := vi y.s.strain) rfl
    have x2 := hx1.at 2 (v := .slice y.ta y.s.tools.length y.tc) rfl
    have x3 := hx1.at 3 (v := vi y.s.day) rfl
    have x4 := hx1.at 4 (v := .slice y.ra y.s.reads.length y.rc) rfl
    rw [HES.out] at x0
    have p0 := keep_cell HPC.out.1 hn1
    have p1 := keep_cell HPC.out.2.1 hn1
    have p2 := keep_cell HPC.out.2.2.1 hn1
    have p3 := keep_cell HPC.out.2.2.2 hn1
    have hna := newer_allocH w1 (.cells (spC p) 73)
    have HN0S : Hid (w.heap.size + 2 ≤ (w1.alloc (.cells (spC p) 73)).heap.size ∧ w1.heap.size < w.heap.size + 2 ∧ w.heap.size + 1 ≤ w1.heap.size) := Lib.hid (by rw [World.size_alloc]; omega)
    have H0 := Lib.hid (And.intro (newer_trans hn1 hna) (And.intro (hx1.below hna hx1.lt) (Whole.made w1 73 (spC p))))
    clear hs1 hn1 hx1 hna
    go_wp2_with fail
    try go_frame
    obtain ⟨pb, hpb⟩ : ∃ v, v = w1.heap.size := ⟨_, rfl⟩
    rw [← hpb] at H0 HN0S ⊢
    have HPB := Lib.hid (show pb < w.heap.size + 2 by have := HN0S.out; omega)
    clear x0 x1 x2 x3 x4 p0 p1 p2 p3 e1 e2 e4 e5 hpb
    go_loopw [5, 7] (fun s5 s7 wr => ∃ (i : Nat) (us : List Fl) (A : Option Addr) (c : Nat), i ≤ nx ∧ s5 = .slice A us.length c ∧ s7 = vi (p.x.lo + (i : Int)) ∧ FlJ (w.heap.size + 2) (LL (i * ny)) us A c wr ∧ newer w wr ∧ Whole wr w.heap.size 26 (smC y) ∧ Whole wr pb 73 (spC p) ∧ w.heap.size + 2 ≤ wr.heap.size) (fun _ s7 _ => (p.x.hi + 1 - intOf s7).toNat)
    case atStart => exact ⟨0, [], none, 0, Nat.zero_le _, rfl, by simp, by rw [Nat.zero_mul, HL0.out]; exact FlJ.none _ _, H0.out.1, H0.out.2.1, H0.out.2.2, HN0S.out.1⟩
    case round =>
      obtain ⟨i, us, A, c, hi, rfl, rfl, hj, q2, q3, q4, q5⟩ := hrel
      obtain ⟨xv, hxv⟩ : ∃ v, v = p.x.lo + (i : Int) := ⟨_, rfl⟩
      rw [← hxv]
      have HXV := Lib.hid hxv
      have HJ1 := Lib.hid (And.intro hj (And.intro q2 (And.intro q3 (And.intro q4 q5))))
      have s0 := q4.at 0 (v := vi p.x.lo) rfl
      have s1 := q4.at 1 (v := vi p.x.hi) rfl
      have s2 := q4.at 2 (v := vi p.y.lo) rfl
      have s3 := q4.at 3 (v := vi p.y.hi) rfl
      clear hj q2 q3 q4 q5 hxv H0 HN0S
      by_cases hlt : i < nx
      · have hxle : xv ≤ p.x.hi := by rw [HXV.out]; have := HNX.out; omega
        have hxw : IntKind.i64.wrap (xv + 1) = xv + 1 := IntWalk.i64_in _ (by have := HPR.out; have := HXV.out; omega)
        have HIX := Lib.hid hlt
        clear hlt hi
        go_wp2_with fail
        try go_frame
        clear s0 s1 s2 s3
        go_loopw [5, 8] (fun s5 s8 wr => ∃ (j : Nat) (us : List Fl) (A : Option Addr) (c : Nat), j ≤ ny ∧ s5 = .slice A us.length c ∧ s8 = vi (p.y.lo + (j : Int)) ∧ FlJ (w.heap.size + 2) (LL (i * ny + j)) us A c wr ∧ newer w wr ∧ Whole wr w.heap.size 26 (smC y) ∧ Whole wr pb 73 (spC p) ∧ w.heap.size + 2 ≤ wr.heap.size) (fun _ s8 _ => (p.y.hi + 1 - intOf s8).toNat)
        case atStart => exact ⟨0, us, A, c, Nat.zero_le _, rfl, by simp, HJ1.out.1, HJ1.out.2.1, HJ1.out.2.2.1, HJ1.out.2.2.2.1, HJ1.out.2.2.2.2⟩
        case round =>
          clear HJ1
          obtain ⟨j, us, A, c, hjle, rfl, rfl, hj, q2, q3, q4, q5⟩ := hrel
          obtain ⟨yv, hyv⟩ : ∃ v, v = p.y.lo + (j : Int) := ⟨_, rfl⟩
          rw [← hyv]
          have HYV := Lib.hid hyv
          have HJ := Lib.hid hj
          have HQ := Lib.hid (And.intro q2 (And.intro q3 q4))
          have HN0 := Lib.hid q5
          have s0 := q4.at 0 (v := vi p.x.lo) rfl
          have s1 := q4.at 1 (v := vi p.x.hi) rfl
          have s2 := q4.at 2 (v := vi p.y.lo) rfl
          have s3 := q4.at 3 (v := vi p.y.hi) rfl
          clear hj q2 q3 q4 q5 hyv
          by_cases hlt : j < ny
          · have hyle : yv ≤ p.y.hi := by rw [HYV.out]; have := HNX.out; omega
            have hyw : IntKind.i64.wrap (yv + 1) = yv + 1 := IntWalk.i64_in _ (by have := HPR.out; have := HYV.out; omega)
            have HIJ := Lib.hid (And.intro HIX.out hlt)
            clear hlt
            go_wp2_with fail
            go_upto_region 14 with fail
            obtain ⟨mb, hmb⟩ : ∃ v, v = wr.heap.size := ⟨_, rfl⟩
            rw [← hmb]
            obtain ⟨m, hm⟩ : ∃ m : Mv, m = (xv, yv) := ⟨_, rfl⟩
            have hna := newer_allocH wr (.cells #[vi xv, vi yv] 47)
            refine genQ (fun X => newer wr X ∧ newer w X ∧ Whole X w.heap.size 26 (smC y) ∧ Whole X pb 73 (spC p) ∧ Whole X mb 47 (mvC m)) ⟨hna, newer_trans HQ.out.1 hna, HQ.out.2.1.below hna HQ.out.2.1.lt, HQ.out.2.2.below hna HQ.out.2.2.lt, by rw [hmb, hm]; exact Whole.made _ _ _⟩ ?_
            have HMD := Lib.hid (show m = (p.x.lo + (i : Int), p.y.lo + (j : Int)) by rw [hm, HXV.out, HYV.out])
            have HMB := Lib.hid (show (-30 ≤ m.1 ∧ m.1 ≤ 30) ∧ -30 ≤ m.2 ∧ m.2 ≤ 30 by rw [hm]; have h1 := HXV.out; have h2 := HYV.out; have h3 := HPR.out; have h4 := HNX.out; have h5 := HIJ.out; dsimp only; omega)
            clear hna hmb hm s0 s1 s2 s3
            rintro w3 ⟨hn3, hn4, hx3, hp3, hm3⟩
            have H3 := Lib.hid (And.intro hn3 (And.intro hn4 (And.intro hx3 (And.intro hp3 hm3))))
            have x0 := hx3.at 0 (v := .slice y.sa y.s.spots.length y.sc) rfl
            have x1 := hx3.at 1 (v := vi y.s.strain) rfl
            have x2 := hx3.at 2 (v := .slice y.ta y.s.tools.length y.tc) rfl
            have x3 := hx3.at 3 (v := vi y.s.day) rfl
            have x4 := hx3.at 4 (v := .slice y.ra y.s.reads.length y.rc) rfl
            have z0 := hm3.at 0 (v := vi m.1) rfl
            have z1 := hm3.at 1 (v := vi m.2) rfl
            clear hn3 hn4 hx3 hp3 hm3
            have HNR := Lib.hid (fun W => refNear_any y o m W (by have := HMB.out; omega) (by have := HMB.out; omega) (by have := HOB.out; omega) (by have := HOB.out; omega))
            have HGE := Lib.hid (HGL.out o HLA.out m)
            obtain ⟨nr, hnr⟩ : ∃ q, q = nearB y.s.strain o m := ⟨_, rfl⟩
            rw [← hnr] at HNR HGE
            clear hnr
            have o0 := keep_cell HOC.out.1 H3.out.2.1
            have o1 := keep_cell HOC.out.2 H3.out.2.1
            refine wp_words (by kernel_rfl) (region_told_u 13 (by kernel_rfl) (by kernel_rfl) [false, false, false, false, false, false, false, false, false, false, false, false, false] (fun W => Below w3.heap.size w3 W) newer [vIs (.slice (some ⟨fb, fo, none⟩) n0 bc), vIs (.int .i64 n0), vIs (.bool false), vIs (.bool false), vIs (smV y), vIs (.slice (some ⟨fb, fo, none⟩) n0 bc), vIs (.slice (some ⟨fb, fo, none⟩) n0 bc), vIs (.int .i64 n0), vIs (.int .i64 k), vIs (.pointer (some ⟨fb, fo + k * 2, none⟩)), vIs (mvV o), vIs (mvV m), vIs (.bool nr)] ⟨rfl, rfl, rfl, rfl, (fun v W h => by obtain rfl : v = _ := h; rfl), (fun v W h => by obtain rfl : v = _ := h; rfl), (fun v W h => by obtain rfl : v = _ := h; rfl), (fun v W h => by obtain rfl : v = _ := h; rfl), (fun v W h => by obtain rfl : v = _ := h; rfl), (fun v W h => by obtain rfl : v = _ := h; rfl), (fun v W h => by obtain rfl : v = _ := h; rfl), (fun v W h => by obtain rfl : v = _ := h; rfl), (fun v W h => by obtain rfl : v = _ := h; rfl), trivial⟩ ⟨(fun h => Bool.noConfusion (show false = true from h)), (fun h => Bool.noConfusion (show false = true from h)), (fun h => Bool.noConfusion (show false = true from h)), (fun h => Bool.noConfusion (show false = true from h)), (fun h => Bool.noConfusion (show false = true from h)), (fun h => Bool.noConfusion (show false = true from h)), (fun h => Bool.noConfusion (show false = true from h)), (fun h => Bool.noConfusion (show false = true from h)), (fun h => Bool.noConfusion (show false = true from h)), (fun h => Bool.noConfusion (show false = true from h)), (fun h => Bool.noConfusion (show false = true from h)), (fun h => Bool.noConfusion (show false = true from h)), (fun h => Bool.noConfusion (show false = true from h)), trivial⟩ (fun h k => newer_trans h k) (pickD_stable _ ⟨vIs_st, vIs_st, vIs_st, vIs_st, vIs_st, vIs_st, vIs_st, vIs_st, vIs_st, vIs_st, vIs_st, vIs_st, vIs_st, trivial⟩) (Below.refl _ w3).drew (Below.refl _ _) ?_ ?_)
            · refine ⟨.inr ?_, .inr ?_, .inr ?_, .inr ?_, .inr ?_, .inr ?_, .inr ?_, .inr ?_, .inr ?_, .inr ?_, .inr ?_, .inr ?_, .inr ?_, trivial⟩
              · exact fun a W hG _ hO _ => kM 1 rfl (hO.slot 1 (by kernel_rfl)) rfl hG
              · intro a W hG hR hO hp
                have h52 : slotOf a 52 = .slice (some ⟨fb, fo, none⟩) n0 bc := hp.1
                refine kY (v := .int .i64 n0) hG rfl ?_
                simp [slotOf] at h52
                simp [go_sem, h52]
              · intro a W hG hR hO hp
                have h53 : slotOf a 53 = .int .i64 n0 := hp.1
                refine kY (v := .bool false) hG rfl ?_
                simp [slotOf] at h53
                simp [execOp, go_sem, h53, hn0]
              · exact fun a W hG _ _ hp => kM 54 rfl hp.1 rfl hG
              · intro a W hG hR hO hp
                have h2 := hO.slot 2 (by kernel_rfl)
                have c0 := keep_cell x0 hG
                have c1 := keep_cell x1 hG
                have c2 := keep_cell x2 hG
                have c3 := keep_cell x3 hG
                have c4 := keep_cell x4 hG
                refine kY (v := smV y) hG rfl ?_
                simp [slotOf] at h2
                simp [execOp, go_sem, h2, c0, c1, c2, c3, c4]
              · exact fun a W hG _ hO _ => kM 1 rfl (hO.slot 1 (by kernel_rfl)) rfl hG
              · exact fun a W hG _ hO _ => kM 1 rfl (hO.slot 1 (by kernel_rfl)) rfl hG
              · intro a W hG hR hO hp
                have h58 : slotOf a 58 = .slice (some ⟨fb, fo, none⟩) n0 bc := hp.1
                refine kY (v := .int .i64 n0) hG rfl ?_
                simp [slotOf] at h58
                simp [go_sem, h58]
              · intro a W hG hR hO hp
                have h59 : slotOf a 59 = .int .i64 n0 := hp.1
                refine kY (v := .int .i64 k) hG rfl ?_
                simp [slotOf] at h59
                simp [execOp, go_sem, h59, hkw]
              · intro a W hG hR hO hp
                have h57 : slotOf a 57 = .slice (some ⟨fb, fo, none⟩) n0 bc := hp.1
                have h60 : slotOf a 60 = .int .i64 k := hp.2.1
                refine kY (v := .pointer (some ⟨fb, fo + k * 2, none⟩)) hG rfl ?_
                simp [slotOf] at h57 h60
                simp [execOp, go_sem, h57, h60, hkn]
              · intro a W hG hR hO hp
                have h61 : slotOf a 61 = .pointer (some ⟨fb, fo + k * 2, none⟩) := hp.1
                have c0 := keep_cell o0 hG
                have c1 := keep_cell o1 hG
                refine kY (v := mvV o) hG rfl ?_
                simp [slotOf] at h61
                simp [execOp, go_sem, h61, c0, c1]
              · intro a W hG hR hO hp
                have h9 := hO.slot 9 (by kernel_rfl)
                have c0 := keep_cell z0 hG
                have c1 := keep_cell z1 hG
                refine kY (v := mvV m) hG rfl ?_
                simp [slotOf] at h9
                simp [execOp, go_sem, h9, c0, c1]
              · intro a W hG hR hO hp
                have h56 : slotOf a 56 = smV y := hp.1
                have h62 : slotOf a 62 = mvV o := hp.2.1
                have h63 : slotOf a 63 = mvV m := hp.2.2.1
                refine wp_enters (f := 69) (args := #[smV y, mvV o, mvV m]) ?_ ((HNR.out W).mono ?_)
                · simp [slotOf] at h56 h62 h63
                  simp [go_sem, h56, h62, h63]
                · rintro e w' ⟨rfl, hb⟩
                  exact ⟨_, rfl, _, rfl, rfl, hb, below_next hG hb⟩
            · intro w4 hG hR
              rintro _ rfl _ rfl _ rfl _ rfl _ rfl _ rfl _ rfl _ rfl _ rfl _ rfl _ rfl _ rfl _ rfl
              change wpList _ _ _ _ _ _
              simp only [Act.put, List.setIfInBounds_toArray, List.set_cons_zero, List.set_cons_succ, List.drop_succ_cons, List.drop_zero]
              clear HNR o0 o1
              cases nr with
              | false =>
                rw [if_neg (by decide)] at HGE
                clear x0 x1 x2 x3 x4 z0 z1
                have HZ := Lib.hid (And.intro (HJ.out.next H3.out.1) (And.intro H3.out.2.1 (And.intro H3.out.2.2.1 (And.intro H3.out.2.2.2.1 (show w.heap.size + 2 ≤ w3.heap.size by have h2 := H3.out.1.size; have h3 := HN0.out; omega)))))
                have HZ2 := Lib.hid hG
                clear hG
                go_wp2_with fail
                go_roundw
                case rel =>
                  refine ⟨j + 1, us, A, c, by have := HIJ.out; omega, rfl, by rw [HYV.out]; go_num, ?_, newer_trans HZ.out.2.1 HZ2.out, HZ.out.2.2.1.below HZ2.out HZ.out.2.2.1.lt, HZ.out.2.2.2.1.below HZ2.out HZ.out.2.2.2.1.lt, by have h2 := HZ2.out.size; have h3 := HZ.out.2.2.2.2; omega⟩
                  rw [← Nat.add_assoc, HLS.out i j HIJ.out.1 HIJ.out.2, ← HMD.out, HGE.out, List.append_nil]
                  exact HZ.out.1.next HZ2.out
                case measure => simp [intOf]; have := HYV.out; omega
              | true =>
                rw [if_pos rfl] at HGE
                replace H3 := Lib.hid (And.intro (newer_trans H3.out.1 hG) (And.intro (newer_trans H3.out.2.1 hG) (And.intro (H3.out.2.2.1.below hG H3.out.2.2.1.lt) (And.intro (H3.out.2.2.2.1.below hG H3.out.2.2.2.1.lt) (H3.out.2.2.2.2.below hG H3.out.2.2.2.2.lt)))))
                replace x0 := keep_cell x0 hG
                replace x1 := keep_cell x1 hG
                replace x2 := keep_cell x2 hG
                replace x3 := keep_cell x3 hG
                replace x4 := keep_cell x4 hG
                replace z0 := keep_cell z0 hG
                replace z1 := keep_cell z1 hG
                clear hG
                have HRB : Hid (∀ W, newer w4 W → Row mvL 2 W W.heap.size (some ⟨fb, fo, none⟩) bb) := Lib.hid (fun W hW => by have h := newer_trans H3.out.2.1 hW; exact (HRB0.out.below h).more h.size)
                go_wp2_with fail
                go_upto_region 15 with fail
                refine wp_words (by kernel_rfl) (region_turn 9 7 (by kernel_rfl) (by kernel_rfl) (by decide) (fun _ W => Below w4.heap.size w4 W) (pickB [vIs (.slice A us.length c), vIs (smV y), vEmpT w4.heap.size 47, vIs (.slice (some ⟨fb, fo, none⟩) n0 bc), vOwn w4.heap.size 47 2 mvL bb, vIs (mvV m), vOne w4.heap.size 47 (mvC m), (fun _ _ => False), (fun _ _ => False)] [vIs (.slice A us.length c), vIs (smV y), (fun _ _ => True), vIs (.slice (some ⟨fb, fo, none⟩) n0 bc), (fun _ _ => True), vIs (mvV m), (fun _ _ => True), vOwnV w4.heap.size 47 2 (bb.length + 1) (bb.flatMap mvL ++ [m].flatMap mvL), vFls w4.heap.size (fieldsR y.s (agreesB y.s) q (bb ++ [m]))]) (pickB_stable ⟨vIs_st, vIs_st, vEmpT_st, vIs_st, vOwn_st, vIs_st, vOne_st, (fun _ _ _ h _ => h), (fun _ _ _ h _ => h), trivial⟩ ⟨vIs_st, vIs_st, (fun _ _ _ h _ => h), vIs_st, (fun _ _ _ h _ => h), vIs_st, (fun _ _ _ h _ => h), vOwnV_st, vFls_st, trivial⟩) (Below.refl _ w4).drew ?_ ?_)
                · refine ⟨?_, ?_, ?_, ?_, ?_, ?_, ?_, ?_, ?_, trivial⟩
                  · intro b a W hG hO hp
                    have h5 := hO.slot 5 (by kernel_rfl)
                    refine wp_yields (v := .slice A us.length c) ?_ ⟨_, rfl, (by cases b <;> rfl), Below.refl _ _, hG⟩
                    simp [slotOf] at h5
                    simp [execOp, go_sem, h5]
                  · intro b a W hG hO hp
                    have h2 := hO.slot 2 (by kernel_rfl)
                    have c0 := keep_cell x0 hG
                    have c1 := keep_cell x1 hG
                    have c2 := keep_cell x2 hG
                    have c3 := keep_cell x3 hG
                    have c4 := keep_cell x4 hG
                    refine wp_yields (v := smV y) ?_ ⟨_, rfl, (by cases b <;> rfl), Below.refl _ _, hG⟩
                    simp [slotOf] at h2
                    simp [execOp, go_sem, h2, c0, c1, c2, c3, c4]
                  · intro b a W hG hO hp
                    refine wp_makes (v := .slice (some ⟨W.heap.size, 0, none⟩) 0 0) (W' := W.alloc (.cells #[] 47)) ?_ ⟨_, rfl, (by cases b with | false => exact ⟨_, rfl, hG.size, Whole.made _ _ _⟩ | true => trivial), newer_allocH _ _, below_next hG (newer_allocH _ _)⟩
                    skip
                    simp [execOp, go_sem]
                  · intro b a W hG hO hp
                    have h1 := hO.slot 1 (by kernel_rfl)
                    refine wp_yields (v := .slice (some ⟨fb, fo, none⟩) n0 bc) ?_ ⟨_, rfl, (by cases b <;> rfl), Below.refl _ _, hG⟩
                    simp [slotOf] at h1
                    simp [execOp, go_sem, h1]
                  · intro a W hG hO hp
                    have h68 := hp.1
                    have h69 : slotOf a 69 = .slice (some ⟨fb, fo, none⟩) n0 bc := hp.2.1
                    obtain ⟨nb, h68, hnb, hW⟩ := h68
                    obtain ⟨hi0, hz0, hz1, hz2⟩ := HI.out
                    refine wp_append_owncopy (enc := mvL) (size := 2) w4.heap.size (.tmp 68) (.tmp 69) 34 47 i0 (.agg #[vi 0, vi 0]) 16 Try.underlying34 hi0 hz0 hz1 hz2 rfl (by omega) (by omega) (fun _ => rfl) rfl nb ((eval_slot a 68).trans h68) hnb hW bb (some ⟨fb, fo, none⟩) bc (((eval_slot a 69).trans h69).trans (by rw [HBL.out.1])) (by have := HBL.out; omega) (HRB.out W hG) hG.size ?_
                    intro B c' w' hown hb hlt
                    exact ⟨_, rfl, ⟨B, c', rfl, hown⟩, hb, below_next hG hb⟩
                  · intro b a W hG hO hp
                    have h9 := hO.slot 9 (by kernel_rfl)
                    have c0 := keep_cell z0 hG
                    have c1 := keep_cell z1 hG
                    refine wp_yields (v := mvV m) ?_ ⟨_, rfl, (by cases b <;> rfl), Below.refl _ _, hG⟩
                    simp [slotOf] at h9
                    simp [execOp, go_sem, h9, c0, c1]
                  · intro a W hG hO hp
                    have h71 : slotOf a 71 = mvV m := hp.1
                    refine wp_makes (v := .slice (some ⟨W.heap.size, 0, none⟩) 1 1) (W' := W.alloc (.cells #[vi m.1, vi m.2] 47)) ?_ ⟨_, rfl, ⟨_, rfl, hG.size, Whole.made _ _ _⟩, newer_allocH _ _, below_next hG (newer_allocH _ _)⟩
                    simp [slotOf] at h71
                    simp [execOp, go_sem, h71]
                  · intro a W hG hO hp
                    have h70 := hp.1
                    have h72 := hp.2.1
                    obtain ⟨A, c, h70, ho⟩ := h70
                    obtain ⟨nb, h72, hnb, hW⟩ := h72
                    obtain ⟨hi0, hz0, hz1, hz2⟩ := HI.out
                    refine wp_append_all (enc := mvL) (size := 2) (w4.heap.size) (.tmp 70) (.tmp 72) 34 47 i0 (.agg #[vi 0, vi 0]) 16 Try.underlying34 hi0 hz0 hz1 hz2 rfl (by omega) (fun _ => rfl) mvL_one rfl A bb.length c (bb.flatMap mvL) ((eval_slot a 70).trans h70) ho [m] (some ⟨nb, 0, none⟩) 1 ((eval_slot a 72).trans h72) (row_of_whole (enc := mvL) (s := 2) (fun _ => rfl) hW rfl) (by have := HBL.out; unfold maxLen; simp only [List.length_singleton]; omega) (by have := HBL.out; simp only [List.length_singleton]; omega) hG.size ?_
                    intro B c' w2 hown hgr hat
                    exact ⟨_, rfl, ⟨B, c', rfl, hown⟩, below_row hG ho hgr (Nat.le_refl _), fun j hj u hD => by
                      match j, hj, hD with
                      | 0, _, hD =>
                        exact hD
                      | 1, _, hD =>
                        exact hD
                      | 2, _, _ => trivial
                      | 3, _, hD =>
                        exact hD
                      | 4, _, _ => trivial
                      | 5, _, hD =>
                        exact hD
                      | 6, _, _ => trivial
                      | 7, hj, _ => exact absurd rfl hj
                      | 8, _, hD =>
                        exact hD.elim
                      | (_ + 9), _, hD => exact hD⟩
                  · intro b a W hG hO hp
                    cases b with
                    | false => exact (hp.2.1 : False).elim
                    | true =>
                      have h67 : slotOf a 67 = smV y := hp.1
                      have h73 := hp.2.1
                      obtain ⟨B, c', h73, ho⟩ := h73
                      refine wp_enters (f := 33) (args := #[smV y, .slice B (bb.length + 1) c']) ?_ ((HIH.out m B c' W (newer_trans H3.out.2.1 hG) (row_snoc ho) HMB.out).mono ?_)
                      · simp [slotOf] at h67 h73
                        simp [go_sem, h67, h73]
                      · rintro e w' ⟨⟨vs, A2, c2, rfl, hrv, hvi, hve⟩, hb⟩
                        exact ⟨_, rfl, _, rfl, ⟨vs, A2, c2, rfl, hrv, hvi.low hG.size, hve⟩, hb, below_next hG hb⟩
                · intro w5 hG
                  rintro _ rfl _ rfl _ - _ rfl _ - _ rfl _ - _ - _ ⟨vs, A2, c2, rfl, hrv, hvi, hve⟩
                  change wpList _ _ _ _ _ _
                  simp only [Act.put, List.setIfInBounds_toArray, List.set_cons_zero, List.set_cons_succ, List.drop_succ_cons, List.drop_zero]
                  have HR2 := Lib.hid (And.intro hrv (And.intro hvi hve))
                  have HJ2 := Lib.hid (And.intro (HJ.out.next (newer_trans H3.out.1 hG)) (And.intro (newer_trans H3.out.2.1 hG) (And.intro (H3.out.2.2.1.below hG H3.out.2.2.1.lt) (And.intro (H3.out.2.2.2.1.below hG H3.out.2.2.2.1.lt) hG.size))))
                  have HFB := Lib.hid (show us.length ≤ 4826809 ∧ vs.length ≤ 28561 from ⟨by have h1 := congrArg List.length HJ.out.eq; rw [List.length_map] at h1; rw [h1]; exact HLB.out _, by have h1 := congrArg List.length hve; rw [List.length_map] at h1; rw [h1]; exact HFB0.out m⟩)
                  have HFR : Hid (∀ x ∈ vs, ∀ ad, x.a = some ad → (Value.slice A us.length c).ownBlock ≠ some ad.block) := Lib.hid (fun x hx ad had e => by
                    have h1 := own_lt (own_below HJ.out.own H3.out.1) _ e
                    have h2 := hvi.hi x hx ad had
                    omega)
                  have HSZ5 := Lib.hid (show w.heap.size + 2 ≤ w5.heap.size by have h1 := hG.size; have h2 := H3.out.1.size; have h3 := HN0.out; omega)
                  clear hrv hvi hve hG x0 x1 x2 x3 x4 z0 z1
                  go_wp2_with (at_builtin; go_loud ((refine wpList_plain rfl fun _ hK => wp_append_all (enc := flL) (size := 1) (w.heap.size + 2) (.tmp 66) (.tmp 74) 67 34 i1 (.slice none 0 0) 24 Try.underlying67 HI1.out.1 HI1.out.2.1 HI1.out.2.2.1 HI1.out.2.2.2 rfl (by omega) (fun _ => rfl) flL_one rfl A us.length c (us.flatMap flL) rfl HJ2.out.1.own vs A2 c2 rfl HR2.out.1 (by have := HFB.out; unfold maxLen; omega) (by have := HFB.out; omega) HSZ5.out fun B c3 w6 hown hgr hat => hK _ _ ?_); have HE := Lib.hid (And.intro (HJ2.out.1.app (HR2.out.2.1.low (by have h2 := H3.out.1.size; have h3 := HN0.out; omega)) HFR.out hown hgr hat) (And.intro (HJ2.out.1.new (w := w) (Nat.le_add_right _ _) HJ2.out.2.1 hgr) (And.intro (HJ2.out.2.2.1.grown hgr (fun e => by have := own_ge HJ2.out.1.own _ e.symm; omega)) (HJ2.out.2.2.2.1.grown hgr (fun e => by have := own_ge HJ2.out.1.own _ e.symm; have := HPB.out; omega))))); have HSZ := Lib.hid hgr.size; clear hown hgr hat))
                  go_roundw
                  case rel =>
                    refine ⟨j + 1, us ++ vs, B, c3, by have := HIJ.out; omega, by rw [List.length_append], by rw [HYV.out]; go_num, ?_, HE.out.2.1, HE.out.2.2.1, HE.out.2.2.2, by have := HSZ5.out; have := HSZ.out; omega⟩
                    have h1 := HE.out.1
                    rw [HR2.out.2.2] at h1
                    rw [← Nat.add_assoc, HLS.out i j HIJ.out.1 HIJ.out.2, ← HMD.out, HGE.out]
                    exact h1
                  case measure => simp [intOf]; have := HYV.out; omega
          · obtain rfl : j = ny := by omega
            have hyle : ¬ yv ≤ p.y.hi := by rw [HYV.out]; have := HNX.out; omega
            go_wp2_with fail
            go_roundw
            case rel => exact ⟨i + 1, us, A, c, by have := HIX.out; omega, rfl, by rw [HXV.out]; go_num, by rw [Nat.succ_mul]; exact HJ.out, HQ.out.1, HQ.out.2.1, HQ.out.2.2, HN0.out⟩
            case measure => simp [intOf]; have := HXV.out; omega
      · obtain rfl : i = nx := by omega
        have hxle : ¬ xv ≤ p.x.hi := by rw [HXV.out]; have := HNX.out; omega
        go_wp2_with fail
        go_ret
        rw [HLF.out] at HJ1
        obtain ⟨xs, A', c', h1, h2, h3, h4⟩ := HJ1.out.1.out (H := w.heap.size) (Nat.le_add_right _ _)
        refine ⟨?_, HJ1.out.2.1⟩
        first | exact ⟨xs, A', c', congrArg Ending.returned h1, h2, h3, h4⟩ | exact ⟨xs, A', ⟨c', congrArg Ending.returned h1⟩, h2, h3, h4⟩
theorem fields_any (y : Sm) (hs : SdOk y.s) (h3 : y.s.spots.length ≤ 3) : ∀ r, FieldsAt y r
  | 0 => fields_zero y hs
  | r + 1 => fields_step y hs h3 r (fields_any y hs h3 r)

end Go.Proofs.Ytpmafnifgegfbaa
