/- What the last text of this chain needs: AL, AM, AN, AO, AH2, AP, AQ, AJ, AR, CE, CF, CG, CI, CJ. -/
import Derived.Test.YtkenokpobbichaaZP06
namespace Go.Proofs.Ytkenokpobbichaa
section
open Go.RowKit Go.Shelf Go.Deep
theorem wp_append_all {α : Type} {enc : α -> List Value} {size : Nat} {P : Program} {w : World} {o : Oper} {a : Act} {K : Act -> World -> Prop} {Q : Exit -> Act -> World -> Prop} (base : Nat) (s x : Operand) (t e : TypeId) (i0 : TypeInfo) (z : Value) (bytes : Nat)
  (ht : P.underlying t = some (.slice e)) (hi0 : P.info? e = some i0) (hz0 : i0.zero = some z) (hz1 : i0.size = size) (hz2 : i0.bytes = bytes) (hzs : z.cells.size = size) (hs0 : 0 < size) (he : ∀ x, (enc x).length = size) (he1 : ∀ x, ∀ u ∈ enc x, u.oneCell' = true)
  (ho : o.op = .call { callee := .builtin .append, args := #[s, x], argTypes := #[t, t] })
  (A : Option Addr) (n c : Nat) (xs : List Value) (hs : a.eval s = .slice A n c) (hown : w.ownsRow base e size (.slice A n c) n xs)
  (l : List α) (A2 : Option Addr) (cp : Nat) (hx : a.eval x = .slice A2 l.length cp) (hr : Row enc size w w.heap.size A2 l) (h63 : n + l.length <= maxLen) (hbytes : (n + l.length) * bytes <= 140737488355328) (hbase : base <= w.heap.size)
  (h : ∀ B c' w', w'.ownsRow base e size (.slice B (n + l.length) c') (n + l.length) (xs ++ l.flatMap enc) -> w.grownBy w' (Value.slice A n c).ownBlock -> (∀ g, (Value.slice B (n + l.length) c').ownBlock = some g -> (Value.slice A n c).ownBlock = some g ∨ g = w.heap.size) -> K (a.put o.dst (.slice B (n + l.length) c')) w') : Oper.wp P o a w K Q := by
 rcases Nat.eq_zero_or_pos l.length with h0 | hpos
 ·obtain rfl : l = [] := List.eq_nil_of_length_eq_zero h0
  obtain ⟨hroom, _⟩ := own_room hown
  have hrun : (Builtin.append_ #[t, t] o.type #[.slice A n c, .slice A2 0 cp]).run P w = .ok (.slice A n c) w := by
   have hu := run_underlying (P := P) (w := w) ht
   rcases A with _ | ad <;> rcases A2 with _ | ad2 <;> simp [Builtin.append_, hu, sizeOf, typeInfo, hi0, Builtin.lenOf, Builtin.firstCells, loadCells, loadCellsFrom, storeCells, hroom]
  unfold Oper.wp
  simp only [List.length_nil] at hx
  simp [execOp, ho, resolve, invoke, builtin, hs, hx, hrun, Result.andThen]
  exact h A c w (by simpa using hown) (World.grownBy.refl _ _) (fun g hg => .inl hg)
 ·obtain ⟨b, off, rfl, hb, hc⟩ := hr (by intro e; rw [e] at hpos; simp at hpos)
  refine wp_append_lies w s x t ho base e i0 z size bytes ht hi0 hz0 hz1 hz2 hzs hs0 (.slice A n c) n xs hs hown ⟨b, off, none⟩ l.length cp (l.flatMap enc) hx (by rw [flat_len (enc := enc) (s := size) he]) (row_news (enc := enc) (s := size) hs0 he hr) (fun u hu => by
   obtain ⟨y, _, hy⟩ := List.mem_flatMap.1 hu
   exact he1 y u hy) hpos h63 hbytes hbase w.heap.size rfl ?_
  intro g cap w' h2 h3 h4 _
  refine h _ _ w' h2 h3 fun g' hg' => ?_
  obtain rfl : g = g' := by simpa [Value.ownBlock] using hg'
  exact h4
theorem row_grown {α : Type} {enc : α -> List Value} {s : Nat} {w w' : World} {A : Option Addr} {l : List α} {x : Option Nat} (h : Row enc s w w.heap.size A l) (hg : w.grownBy w' x) (hne : ∀ ad, A = some ad -> x ≠ some ad.block) : Row enc s w' w'.heap.size A l := by
 intro hl
 obtain ⟨b, off, rfl, hb, hc⟩ := h hl
 have hk := hg.block b hb (fun e => hne _ rfl e.symm)
 refine ⟨b, off, rfl, Nat.lt_of_lt_of_le hb hg.size, fun i y hy j u hu => ?_⟩
 rw [cell_of_same hk]
 exact hc i y hy j u hu
def suL (u : Su) : List Value := [vi u.frm, .slice u.a u.beds.length u.c]
theorem info_su : (Try.prog.info? 27).map (fun i => (i.zero, i.size, i.bytes)) = some (some (.agg #[vi 0, .slice none 0 0]), 2, 32) := by kernel_rfl
def suK (u : Su) : Int × List Int := (u.frm, u.beds)
def suN (k : Nat) (m : List Nat) : Int × List Int := ((k : Int), m.map fun x : Nat => (x : Int))
structure SfIn (B : Nat) (a : Option Addr) (us : List Su) (W : World) : Prop where
 ok : ∀ x ∈ us, SuOk x W
 ne : ∀ x ∈ us, x.beds ≠ []
 hi : ∀ x ∈ us, ∀ ad, x.a = some ad -> B <= ad.block ∨ x.a = a
structure SfJ (B : Nat) (a : Option Addr) (L : List (Int × List Int)) (us : List Su) (A : Option Addr) (c : Nat) (W : World) : Prop where
 own : W.ownsRow B 27 2 (.slice A us.length c) us.length (us.flatMap suL)
 sin : SfIn B a us W
 far : ∀ x ∈ us, ∀ ad, x.a = some ad -> (Value.slice A us.length c).ownBlock ≠ some ad.block
 eq : us.map suK = L
section
variable {B : Nat} {a : Option Addr} {L : List (Int × List Int)} {us : List Su} {A : Option Addr} {c : Nat} {W W' : World}
theorem SfIn.next (h : SfIn B a us W) (hb : newer W W') : SfIn B a us W' := ⟨fun x hx => (h.ok x hx).next hb, h.ne, h.hi⟩
theorem SfJ.next (h : SfJ B a L us A c W) (hb : newer W W') : SfJ B a L us A c W' := ⟨own_below h.own hb, h.sin.next hb, h.far, h.eq⟩
theorem SfJ.none (B : Nat) (a : Option Addr) (W : World) : SfJ B a [] [] none 0 W := ⟨⟨rfl, .inl ⟨rfl, rfl⟩⟩, ⟨fun x hx => by simp at hx, fun x hx => by simp at hx, fun x hx => by simp at hx⟩, fun x hx => by simp at hx, rfl⟩
theorem SfJ.app (h : SfJ B a L us A c W) {vs : List Su} (hv : SfIn B a vs W) (hf : ∀ x ∈ vs, ∀ ad, x.a = some ad -> (Value.slice A us.length c).ownBlock ≠ some ad.block) {A' : Option Addr} {c' : Nat}
  (hown : W'.ownsRow B 27 2 (.slice A' (us.length + vs.length) c') (us.length + vs.length) (us.flatMap suL ++ vs.flatMap suL)) (hg : W.grownBy W' (Value.slice A us.length c).ownBlock)
  (hat : ∀ g, (Value.slice A' (us.length + vs.length) c').ownBlock = some g -> (Value.slice A us.length c).ownBlock = some g ∨ g = W.heap.size) : SfJ B a (L ++ vs.map suK) (us ++ vs) A' c' W' := by
 have hall : ∀ x ∈ us ++ vs, SuOk x W /\ x.beds ≠ [] /\ ∀ ad, x.a = some ad -> (Value.slice A us.length c).ownBlock ≠ some ad.block := fun x hx => by
  rcases List.mem_append.1 hx with hx | hx
  ·exact ⟨h.sin.ok x hx, h.sin.ne x hx, h.far x hx⟩
  ·exact ⟨hv.ok x hx, hv.ne x hx, hf x hx⟩
 refine ⟨by rw [List.length_append, List.flatMap_append]; exact hown, ⟨fun x hx => ?_, fun x hx => (hall x hx).2.1, fun x hx => ?_⟩, fun x hx ad had e => ?_, by rw [List.map_append, h.eq]⟩
 ·exact row_grown (hall x hx).1 hg (hall x hx).2.2
 ·rcases List.mem_append.1 hx with hx | hx
  ·exact h.sin.hi x hx
  ·exact hv.hi x hx
 ·rw [List.length_append] at e
  rcases hat _ e with e | e
  ·exact (hall x hx).2.2 ad had e
  ·obtain ⟨b, off, h1, h2, _⟩ := (hall x hx).1 (hall x hx).2.1
   rw [had] at h1
   injection h1 with h1
   subst h1
   simp at e
   omega
theorem SfJ.new (h : SfJ B a L us A c W) {w : World} (hB : w.heap.size <= B) (hn : newer w W) (hg : W.grownBy W' (Value.slice A us.length c).ownBlock) : newer w W' := by
 cases hx : (Value.slice A us.length c).ownBlock with
 | none =>
  rw [hx] at hg
  exact newer_trans hn (below_grown hg (fun q e => by cases e) (Nat.le_refl _))
 | some k =>
  rw [hx] at hg
  exact Below.trans hn (below_of_grown hg (Nat.le_trans hB (own_ge h.own k hx)) hn.size)
end
end

section
open Go.RowKit Go.Shelf Go.Deep
def ownS (cols K k : Nat) (l : List Nat) : List (List Nat) := if l ≠ [] /\ K <= l.length /\ k + l.length <= cols then [l] else []
def partS (n cols K k r : Nat) (l : List Nat) : Nat -> List (List Nat)
 | 0 => ownS cols K k l
 | i + 1 => partS n cols K k r l i ++ (if nearB l i then surfsR n cols K k r (l ++ [i]) else [])
where nearB (l : List Nat) (b : Nat) : Bool := match l.getLast? with | none => true | some y => decide (y <= b + 1) && decide (b <= y + 1)
theorem near_iff {l : List Nat} {b : Nat} : partS.nearB l b = true ↔ ∀ y, l.getLast? = some y -> y <= b + 1 /\ b <= y + 1 := by
 unfold partS.nearB
 cases l.getLast? with
 | none => simp
 | some y => simp
theorem part_flat {n cols K k r : Nat} {l : List Nat} : ∀ i, partS n cols K k r l i = ownS cols K k l ++ (List.range i).flatMap fun b => if (∀ y, l.getLast? = some y -> y <= b + 1 /\ b <= y + 1) then surfsR n cols K k r (l ++ [b]) else []
 | 0 => by simp [partS]
 | i + 1 => by
  unfold partS
  rw [part_flat i, List.range_succ, List.flatMap_append, List.append_assoc]
  congr 2
  by_cases h : ∀ y, l.getLast? = some y -> y <= i + 1 /\ i <= y + 1
  ·simp only [List.flatMap_cons, List.flatMap_nil, List.append_nil]
   rw [if_pos h, if_pos (near_iff.2 h)]
  ·simp only [List.flatMap_cons, List.flatMap_nil, List.append_nil]
   rw [if_neg h, if_neg (fun e => h (near_iff.1 e))]
theorem part_all {n cols K k r : Nat} {l : List Nat} : partS n cols K k r l n = surfsR n cols K k (r + 1) l := by
 rw [part_flat]
 rfl
theorem surfs_last {n cols K k : Nat} {l : List Nat} : surfsR n cols K k 0 l = ownS cols K k l := rfl
theorem flat_few {α : Type} {m : Nat} (f : Nat -> List α) (h : ∀ b, (f b).length <= m) : ∀ i, ((List.range i).flatMap f).length <= i * m
 | 0 => by simp
 | i + 1 => by
  rw [List.range_succ, List.flatMap_append, List.length_append, Nat.succ_mul]
  have h1 := flat_few f h i
  have h2 := h i
  simp only [List.flatMap_cons, List.flatMap_nil, List.append_nil]
  omega
theorem own_few (cols K k : Nat) (l : List Nat) : (ownS cols K k l).length <= 1 := by
 unfold ownS
 split <;> simp
theorem surfs_few {n cols K k : Nat} (hn : n <= 5) : ∀ r l, (surfsR n cols K k r l).length <= 6 ^ r
 | 0, l => by
  rw [surfs_last]
  exact own_few _ _ _ _
 | r + 1, l => by
  rw [<- part_all, part_flat, List.length_append]
  have h1 := own_few cols K k l
  have h2 := flat_few (m := 6 ^ r) (fun b => if (∀ y, l.getLast? = some y -> y <= b + 1 /\ b <= y + 1) then surfsR n cols K k r (l ++ [b]) else []) (fun b => by
   by_cases h : ∀ y, l.getLast? = some y -> y <= b + 1 /\ b <= y + 1
   ·rw [if_pos h]
    exact surfs_few hn r _
   ·rw [if_neg h]
    simp) n
  have h3 : n * 6 ^ r <= 5 * 6 ^ r := Nat.mul_le_mul_right _ hn
  have h4 : 0 < 6 ^ r := Nat.pow_pos (by omega)
  rw [Nat.pow_succ]
  omega
theorem part_few {n cols K k r : Nat} (hn : n <= 5) (hr : r <= 12) {l : List Nat} {i : Nat} (hi : i <= 5) : (partS n cols K k r l i).length <= 10883911681 := by
 rw [part_flat, List.length_append]
 have h1 := own_few cols K k l
 have h2 := flat_few (m := 6 ^ r) (fun b => if (∀ y, l.getLast? = some y -> y <= b + 1 /\ b <= y + 1) then surfsR n cols K k r (l ++ [b]) else []) (fun b => by
  by_cases h : ∀ y, l.getLast? = some y -> y <= b + 1 /\ b <= y + 1
  ·rw [if_pos h]
   exact surfs_few hn r _
  ·rw [if_neg h]
   simp) i
 have h3 : i * 6 ^ r <= 5 * 6 ^ 12 := Nat.mul_le_mul hi (Nat.pow_le_pow_right (by omega) hr)
 have h4 : 5 * 6 ^ 12 = 10883911680 := by decide
 omega
theorem surfs_few12 {n cols K k r : Nat} (hn : n <= 5) (hr : r <= 12) (l : List Nat) : (surfsR n cols K k r l).length <= 2176782336 := by
 have h1 := surfs_few (cols := cols) (K := K) (k := k) hn r l
 have h3 : 6 ^ r <= 6 ^ 12 := Nat.pow_le_pow_right (by omega) hr
 have h4 : 6 ^ 12 = 2176782336 := by decide
 omega
theorem last_at {l : List Nat} {p : Int} (hl : l ≠ []) (hp : iAt (l.map fun x : Nat => (x : Int)) (l.length - 1) = p) : ∃ y : Nat, l.getLast? = some y /\ p = y := by
 obtain ⟨y, hy⟩ := get_of_lt (l := l) (k := l.length - 1) (by have := List.length_pos_iff.2 hl; omega)
 refine ⟨y, by rw [List.getLast?_eq_getElem?, hy], ?_⟩
 rw [<- hp]
 simp [iAt, hy]
theorem near_last {l : List Nat} {p : Int} {b : Nat} (hl : l ≠ []) (hp : iAt (l.map fun x : Nat => (x : Int)) (l.length - 1) = p) : partS.nearB l b = inB ((b : Int) - p) (-1) 1 := by
 obtain ⟨y, hy, rfl⟩ := last_at hl hp
 unfold partS.nearB inB
 rw [hy]
 simp only
 congr 1 <;> exact decide_eq_decide.2 (by omega)
theorem own_yes {s : Sd} (hs : SdOk s) {k : Nat} {l : List Nat} (hl : l ≠ []) (h : surfB s k (l.map fun x : Nat => (x : Int)) = true) : ownS s.cols.length s.K k l = [l] := by
 have h1 := (surfB_nat hs).1 h
 unfold ownS
 rw [if_pos ⟨hl, h1.1, h1.2.1⟩]
theorem own_no {s : Sd} (hs : SdOk s) {k : Nat} {l : List Nat} (hw : wayB s.n l) (h : surfB s k (l.map fun x : Nat => (x : Int)) = false) : ownS s.cols.length s.K k l = [] := by
 unfold ownS
 rw [if_neg]
 rintro ⟨h1, h2, h3⟩
 have := (surfB_nat hs).2 ⟨h2, h3, hw⟩
 rw [h] at this
 cases this
theorem own_nil (cols K k : Nat) : ownS cols K k [] = [] := by
 unfold ownS
 rw [if_neg (fun h => h.1 rfl)]
end

section
open Go.RowKit Go.Shelf Go.Deep
def vNilB (H : Nat) (v : Value) (W : World) : Prop := ∃ nb, v = .slice (some ⟨nb, 0, none⟩) 0 0 /\ H <= nb /\ Whole W nb 3 #[]
def vTwoB (H : Nat) (l : List Int) (y : Int) (v : Value) (W : World) : Prop := ∃ g c, v = .slice (some ⟨g, 0, none⟩) (l.length + 1) c /\ W.ownsRow H 3 1 (.slice (some ⟨g, 0, none⟩) (l.length + 1) c) (l.length + 1) ((l ++ [y]).flatMap intL)
def vSub (H : Nat) (u : Su) (y : Int) (v : Value) (W : World) : Prop := ∃ u2 : Su, v = suV u2 /\ u2.frm = u.frm /\ u2.beds = u.beds ++ [y] /\ SuOk u2 W /\ ∀ ad, u2.a = some ad -> H <= ad.block
def vSurfs (H : Nat) (L : List (Int × List Int)) (v : Value) (W : World) : Prop := ∃ us A c, v = .slice A (us : List Su).length c /\ Row suL 2 W W.heap.size A us /\ SfIn H none us W /\ us.map suK = L
theorem vNilB_st {H : Nat} : ∀ v W W', vNilB H v W -> newer W W' -> vNilB H v W' := fun _ _ _ ⟨nb, e, h1, h2⟩ hb => ⟨nb, e, h1, h2.below hb h2.lt⟩
theorem vTwoB_st {H : Nat} {l : List Int} {y : Int} : ∀ v W W', vTwoB H l y v W -> newer W W' -> vTwoB H l y v W' := fun _ _ _ ⟨g, c, e, h⟩ hb => ⟨g, c, e, own_below h hb⟩
theorem vSub_st {H : Nat} {u : Su} {y : Int} : ∀ v W W', vSub H u y v W -> newer W W' -> vSub H u y v W' := fun _ _ _ ⟨u2, h1, h2, h3, h4, h5⟩ hb => ⟨u2, h1, h2, h3, h4.next hb, h5⟩
theorem vSurfs_st {H : Nat} {L : List (Int × List Int)} : ∀ v W W', vSurfs H L v W -> newer W W' -> vSurfs H L v W' := fun _ _ _ ⟨us, A, c, h1, h2, h3, h4⟩ hb => ⟨us, A, c, h1, (h2.below hb).more hb.size, h3.next hb, h4⟩
theorem SfIn.high {B H : Nat} {a : Option Addr} {us : List Su} {W : World} (h : SfIn B a us W) (hB : H <= B) (ha : ∀ ad, a = some ad -> H <= ad.block) : SfIn H none us W := ⟨h.ok, h.ne, fun x hx ad had => .inl (by
 rcases h.hi x hx ad had with h1 | h1
 ·omega
 ·exact ha ad (by rw [<- h1]; exact had))⟩
theorem suL_one : ∀ (x : Su), ∀ u ∈ suL x, u.oneCell' = true := fun x u hu => by
 simp [suL] at hu
 rcases hu with rfl | rfl <;> rfl
def surfOut (H : Nat) (a : Option Addr) (L : List (Int × List Int)) (e : Ending) (w' : World) : Prop := ∃ us A c, e = .returned (.slice A (us : List Su).length c) /\ Row suL 2 w' w'.heap.size A us /\ SfIn H a us w' /\ us.map suK = L
def SurfsAt (s : Sm) (k r : Nat) : Prop := ∀ (l : List Nat) (u : Su) (w : World), SmOk s w -> SuOk u w -> u.frm = k -> u.beds = l.map (fun x : Nat => (x : Int)) -> wayB s.sd.n l -> k + l.length + r = s.cs.length ->
 Calls Try.prog 69 #[smV s, suV u] w fun e w' => surfOut w.heap.size u.a ((surfsR s.sd.n s.cs.length s.sd.K k r l).map (suN k)) e w' /\ newer w w'
theorem SfIn.low {B H : Nat} {a : Option Addr} {us : List Su} {W : World} (h : SfIn B a us W) (hH : H <= B) : SfIn H a us W := ⟨h.ok, h.ne, fun x hx ad had => (h.hi x hx ad had).imp (fun h1 => Nat.le_trans hH h1) id⟩
theorem SfJ.out {H B : Nat} {a : Option Addr} {L : List (Int × List Int)} {us : List Su} {A : Option Addr} {c : Nat} {W : World} (h : SfJ B a L us A c W) (hH : H <= B) : surfOut H a L (.returned (.slice A us.length c)) W := ⟨us, A, c, rfl, row_of_own (by omega) (fun _ => rfl) h.own, h.sin.low hH, h.eq⟩
theorem row_su {W : World} {g : Nat} {t : TypeId} {u : Su} (h : Whole W g t (suC u)) : Row suL 2 W W.heap.size (some ⟨g, 0, none⟩) [u] := by
 intro _
 refine ⟨g, 0, rfl, h.lt, fun i y hy j v hv => ?_⟩
 rcases i with _ | i
 ·simp at hy
  subst hy
  have := h.at j (v := v) (by simpa [suL, suC] using hv)
  simpa using this
 ·simp at hy
set_option maxRecDepth 100000 in
set_option maxHeartbeats 1000000 in
theorem surfs_step (s : Sm) (hs : SdOk s.sd) (k r : Nat) (ih : ∀ q, r = q + 1 -> SurfsAt s k q) : SurfsAt s k r := by
 intro l u w hok hu hf hl hw hr
 have hcl : s.cs.length <= 12 /\ 1 <= s.cs.length := by have h1 := hs.cols; rw [sd_len] at h1; omega
 have hul : u.beds.length = l.length := by rw [hl, List.length_map]
 have hnw : newer w ((w.alloc (.cells (smC s) 24)).alloc (.cells (suC u) 27)) := newer_trans (newer_allocH _ _) (newer_allocH _ _)
 have hxb := (Whole.made w 24 (smC s)).alloc (.cells (suC u) 27)
 have hub := Whole.made (w.alloc (.cells (smC s) 24)) 27 (suC u)
 rw [World.size_alloc] at hub
 have H0 := Lib.hid (And.intro hnw (And.intro hxb hub))
 obtain ⟨y0, hy0⟩ := get_of_lt (l := s.cs) (k := 0) (by omega)
 have hyn : y0.beds.length = s.sd.n := (sd_n hy0).symm
 obtain ⟨b1, o1, ea, _, cy⟩ := rowC hok.cs hy0
 simp only [Nat.add_zero] at cy
 obtain ⟨n, hn⟩ : ∃ n, n = s.sd.n := ⟨_, rfl⟩
 have hnb : 1 <= n /\ n <= 5 := by rw [hn]; exact hs.beds
 rw [hyn, <- hn] at cy
 have HCY := Lib.hid cy
 have HSA := Lib.hid ea
 have HU := Lib.hid hu
 have HUL := Lib.hid (show u.beds.length <= 1000 by omega)
 have hcne : ¬ (s.cs = []) := by intro h; rw [h] at hcl; simp at hcl
 have x0 := hxb.at 0 (v := .slice s.a s.cs.length s.c) rfl
 rw [ea] at x0
 have x1 := hxb.at 1 (v := vi s.least) rfl
 have u0 := hub.at 0 (v := vi u.frm) rfl
 have u1 := hub.at 1 (v := .slice u.a u.beds.length u.c) rfl
 obtain ⟨i0, hi0, hz0, hz1, hz2⟩ := info_parts info_int
 have HI := Lib.hid (And.intro hi0 (And.intro hz0 (And.intro hz1 hz2)))
 obtain ⟨i1, hi1, hy1, hy2, hy3⟩ := info_parts info_su
 have HI1 := Lib.hid (And.intro hi1 (And.intro hy1 (And.intro hy2 hy3)))
 have HSD := Lib.hid hs
 have HOK := Lib.hid hok
 have c26 : IntKind.i64.wrap (u.frm + (u.beds.length : Int)) = u.frm + (u.beds.length : Int) := IntWalk.i64_in _ (by omega)
 have HP0 := Lib.hid (And.intro hf (And.intro hl (And.intro hw (And.intro hr hn))))
 have HIH0 := Lib.hid ih
 have hsize : w.heap.size <= w.heap.size := Nat.le_refl _
 by_cases hln : l = []
 ·have hl0 : u.beds.length = 0 := by rw [hul, hln]; rfl
  have c26e : IntKind.i64.wrap u.frm = u.frm := IntWalk.i64_in _ (by omega)
  have c26f : wrap64 u.frm = u.frm := by unfold wrap64; omega
  clear c26
  clear hok hu hs hnw hxb hub hy0 hyn ea hi0 hz0 hz1 hz2 hi1 hy1 hy2 hy3 hsize cy hf hl hw hr hn
  have HS0 : Hid (SfJ (w.heap.size + 2) u.a ((ownS s.cs.length s.sd.K k l).map (suN k)) [] none 0 ((w.alloc (.cells (smC s) 24)).alloc (.cells (suC u) 27))) := Lib.hid (by rw [hln, own_nil]; exact SfJ.none _ _ _)
  by_cases hr0 : r = 0
  ·subst hr0
   have hge : (s.cs.length : Int) <= u.frm + (u.beds.length : Int) := by have h1 := HP0.out.1; have h2 := HP0.out.2.2.2.1; have h3 := congrArg List.length HP0.out.2.1; rw [List.length_map] at h3; omega
   have hge2 : (s.cs.length : Int) <= u.frm := by omega
   go_enter Try.func69, Try.ntmps69
   go_wp2_with fail
   go_ret
   exact ⟨HS0.out.out (Nat.le_add_right _ _), H0.out.1⟩
  ·obtain ⟨q, rfl⟩ : ∃ q, r = q + 1 := ⟨r - 1, by omega⟩
   have hge : ¬ (s.cs.length : Int) <= u.frm + (u.beds.length : Int) := by have h1 := HP0.out.1; have h2 := HP0.out.2.2.2.1; have h3 := congrArg List.length HP0.out.2.1; rw [List.length_map] at h3; omega
   have hge2 : ¬ (s.cs.length : Int) <= u.frm := by omega
   have HI0 := Lib.hid (And.intro HOK.out (HIH0.out q rfl))
   have HPL := Lib.hid (And.intro HP0.out.1 (And.intro HP0.out.2.1 (And.intro HP0.out.2.2.1 (And.intro HP0.out.2.2.2.1 (And.intro HP0.out.2.2.2.2 (And.intro (show s.sd.n <= 5 by rw [<- HP0.out.2.2.2.2]; exact hnb.2) (show q <= 12 by have := HP0.out.2.2.2.1; omega)))))))
   clear HIH0
   go_enter Try.func69, Try.ntmps69
   go_wp2_with fail
   go_loopw [5, 6] (fun s5 s6 wr => ∃ (i : Nat) (us : List Su) (A : Option Addr) (c : Nat), i <= n /\ s5 = .slice A us.length c /\ s6 = vi i /\ SfJ (w.heap.size + 2) u.a ((partS s.sd.n s.cs.length s.sd.K k q l i).map (suN k)) us A c wr /\ newer w wr /\ Whole wr w.heap.size 24 (smC s) /\ Whole wr (w.heap.size + 1) 27 (suC u) /\ w.heap.size + 2 <= wr.heap.size) (fun _ s6 _ => n - (intOf s6).toNat)
   case atStart => exact ⟨0, [], none, 0, Nat.zero_le _, rfl, rfl, HS0.out, H0.out.1, H0.out.2.1, H0.out.2.2, by simp [World.size_alloc]⟩
   case round =>
    obtain ⟨i, us, A, c, hi, rfl, rfl, hj, q2, q3, q4, q5⟩ := hrel
    clear x0 x1 u0 u1 H0 HS0
    have HJ := Lib.hid hj
    have HQ := Lib.hid (And.intro hi (And.intro q2 (And.intro q3 q4)))
    have HN0 := Lib.hid q5
    have cy := keep_cell HCY.out q2
    have x0 := q3.at 0 (v := .slice s.a s.cs.length s.c) rfl
    rw [HSA.out] at x0
    have x1 := q3.at 1 (v := vi s.least) rfl
    have u0 := q4.at 0 (v := vi u.frm) rfl
    have u1 := q4.at 1 (v := .slice u.a u.beds.length u.c) rfl
    clear hj q2 q3 q4 q5
    by_cases hlt : i < n
    ·have hlti : (i : Int) < n := by omega
     have hni : partS.nearB l i = true := by rw [hln]; rfl
     have HIH : Hid (∀ (u2 : Su) (W : World), newer w W -> SuOk u2 W -> u2.frm = u.frm -> u2.beds = u.beds ++ [(i : Int)] -> Calls Try.prog 69 #[smV s, suV u2] W fun e w' => surfOut W.heap.size u2.a ((surfsR s.sd.n s.cs.length s.sd.K k q (l ++ [i])).map (suN k)) e w' /\ newer W w') := Lib.hid (fun u2 W hW hu2 hf2 hl2 => HI0.out.2 (l ++ [i]) u2 W (HI0.out.1.next hW) hu2 (by rw [hf2]; exact HPL.out.1) (by rw [hl2, HPL.out.2.1, List.map_append]; rfl) (way_snoc l i (by rw [<- HPL.out.2.2.2.2.1]; exact hlt) HPL.out.2.2.1 (near_iff.1 hni)) (by rw [List.length_append, List.length_singleton]; have := HPL.out.2.2.2.1; omega))
     obtain ⟨LL, hLL⟩ : ∃ LL, LL = (surfsR s.sd.n s.cs.length s.sd.K k q (l ++ [i])).map (suN k) := ⟨_, rfl⟩
     rw [<- hLL] at HIH
     have HLL := Lib.hid (And.intro hLL hni)
     clear hLL hni
     go_upto_region 11 with fail
     clear u1 x0
     have x0 := HQ.out.2.2.1.at 0 (v := .slice s.a s.cs.length s.c) rfl
     have u1 := HQ.out.2.2.2.at 1 (v := .slice u.a u.beds.length u.c) rfl
     have HST : Hid (∀ ii v W W', pickD [vIs (.slice A us.length c), vIs (smV s), vIs (.pointer (some ⟨w.heap.size + 1, 0, none⟩)), vIs (vi u.frm), vNilB wr.heap.size, vIs (.pointer (some ⟨w.heap.size + 1, 1, none⟩)), vIs (.slice u.a u.beds.length u.c), vCopyB wr.heap.size u.beds, vIs (vi (i : Int)), vOneB wr.heap.size (i : Int), vTwoB wr.heap.size u.beds (i : Int), vSub wr.heap.size u (i : Int), vSurfs wr.heap.size LL] ii v W -> newer W W' -> pickD [vIs (.slice A us.length c), vIs (smV s), vIs (.pointer (some ⟨w.heap.size + 1, 0, none⟩)), vIs (vi u.frm), vNilB wr.heap.size, vIs (.pointer (some ⟨w.heap.size + 1, 1, none⟩)), vIs (.slice u.a u.beds.length u.c), vCopyB wr.heap.size u.beds, vIs (vi (i : Int)), vOneB wr.heap.size (i : Int), vTwoB wr.heap.size u.beds (i : Int), vSub wr.heap.size u (i : Int), vSurfs wr.heap.size LL] ii v W') := Lib.hid (pickD_stable _ ⟨vIs_st, vIs_st, vIs_st, vIs_st, vNilB_st, vIs_st, vIs_st, vCopyB_st, vIs_st, vOneB_st, vTwoB_st, vSub_st, vSurfs_st, trivial⟩)
     refine wp_words (by kernel_rfl) (region_live 13 (by kernel_rfl) (by kernel_rfl) (fun W => Below wr.heap.size wr W) (relTwo wr.heap.size 10 10) [none, none, none, none, some 7, none, none, some 10, none, some 10, some 11, none, none] (pickD [vIs (.slice A us.length c), vIs (smV s), vIs (.pointer (some ⟨w.heap.size + 1, 0, none⟩)), vIs (vi u.frm), vNilB wr.heap.size, vIs (.pointer (some ⟨w.heap.size + 1, 1, none⟩)), vIs (.slice u.a u.beds.length u.c), vCopyB wr.heap.size u.beds, vIs (vi (i : Int)), vOneB wr.heap.size (i : Int), vTwoB wr.heap.size u.beds (i : Int), vSub wr.heap.size u (i : Int), vSurfs wr.heap.size LL]) ?_ (Below.refl _ wr).drew ?_ ?_)
     ·intro listed i j v W W' hi hj hui hlj hpi hcl hk hD hR
      by_cases h5 : i = 10
      ·subst h5
       obtain rfl | rfl | rfl | rfl | rfl | rfl | rfl | rfl | rfl | rfl | rfl | rfl | rfl | hj9 : j = 0 ∨ j = 1 ∨ j = 2 ∨ j = 3 ∨ j = 4 ∨ j = 5 ∨ j = 6 ∨ j = 7 ∨ j = 8 ∨ j = 9 ∨ j = 10 ∨ j = 11 ∨ j = 12 ∨ 13 <= j := by omega
       ·exact hD
       ·exact hD
       ·exact hD
       ·exact hD
       ·have h1 := (hk 7 (by kernel_rfl)).2
        rw [hpi 7 (by kernel_rfl)] at h1
        cases h1
       ·exact hD
       ·exact hD
       ·exact absurd rfl (hk 10 (by kernel_rfl)).1
       ·exact hD
       ·exact absurd rfl (hk 10 (by kernel_rfl)).1
       ·exact absurd rfl hj
       ·rw [show listed.getD 10 false = true from (hcl 11 10 (by omega) (by kernel_rfl) hlj)] at hui
        cases hui
       ·rw [show listed.getD 10 false = true from (hcl 11 10 (by omega) (by kernel_rfl) (hcl 12 11 (by omega) (by kernel_rfl) hlj))] at hui
        cases hui
       ·obtain ⟨m, rfl⟩ : ∃ m, j = m + 13 := ⟨j - 13, by omega⟩
        exact trivial
      ·have hrl : relTwo wr.heap.size 10 10 i = newer := by
        unfold relTwo
        rw [show (Nat.beq i 10 || Nat.beq i 10) = false by
         cases h1 : Nat.beq i 10
         ·rfl
         ·exact absurd (Nat.eq_of_beq_eq_true h1) h5]
       rw [hrl] at hR
       exact HST.out j v W W' hD hR
     ·refine ⟨?_, ?_, ?_, ?_, ?_, ?_, ?_, ?_, ?_, ?_, ?_, ?_, ?_, trivial⟩
      ·intro listed a W hun hG hO hp
       have h5 := hO.slot 5 (by kernel_rfl)
       refine wp_yields (v := .slice A us.length c) ?_ ⟨_, rfl, rfl, newer_refl _, hG⟩
       simp [slotOf] at h5
       simp [execOp, go_sem, h5]
      ·intro listed a W hun hG hO hp
       have h2 := hO.slot 2 (by kernel_rfl)
       have c0 := keep_cell x0 hG
       have c1 := keep_cell x1 hG
       refine wp_yields (v := smV s) ?_ ⟨_, rfl, rfl, newer_refl _, hG⟩
       simp [slotOf] at h2
       simp [execOp, go_sem, h2, c0, c1]
      ·intro listed a W hun hG hO hp
       have h3 := hO.slot 3 (by kernel_rfl)
       refine wp_yields (v := (.pointer (some ⟨w.heap.size + 1, 0, none⟩))) ?_ ⟨_, rfl, rfl, newer_refl _, hG⟩
       simp [slotOf] at h3
       simp [execOp, go_sem, h3]
      ·intro listed a W hun hG hO hp
       have h59 : slotOf a 59 = (.pointer (some ⟨w.heap.size + 1, 0, none⟩)) := hp.1
       have c0 := keep_cell u0 hG
       refine wp_yields (v := vi u.frm) ?_ ⟨_, rfl, rfl, newer_refl _, hG⟩
       simp [slotOf] at h59
       simp [execOp, go_sem, h59, c0]
      ·intro listed a W hun hG hO hp
       refine wp_makes (v := .slice (some ⟨W.heap.size, 0, none⟩) 0 0) (W' := W.alloc (.cells #[] 3)) ?_ ⟨_, rfl, ⟨_, rfl, hG.size, Whole.made _ _ _⟩, newer_allocH _ _, hG.alloc hG.size _⟩
       simp [execOp, go_sem]
      ·intro listed a W hun hG hO hp
       have h3 := hO.slot 3 (by kernel_rfl)
       refine wp_yields (v := (.pointer (some ⟨w.heap.size + 1, 1, none⟩))) ?_ ⟨_, rfl, rfl, newer_refl _, hG⟩
       simp [slotOf] at h3
       simp [execOp, go_sem, h3]
      ·intro listed a W hun hG hO hp
       have h62 : slotOf a 62 = (.pointer (some ⟨w.heap.size + 1, 1, none⟩)) := hp.1
       have c0 := keep_cell u1 hG
       refine wp_yields (v := .slice u.a u.beds.length u.c) ?_ ⟨_, rfl, rfl, newer_refl _, hG⟩
       simp [slotOf] at h62
       simp [execOp, go_sem, h62, c0]
      ·intro listed a W hun hG hO hp
       have h61 : listed.getD 7 false = false -> vNilB wr.heap.size (slotOf a 61) W := hp.1
       have h63 : slotOf a 63 = (.slice u.a u.beds.length u.c) := hp.2.1
       obtain ⟨nb, h61, hnb, hW⟩ := h61 hun
       obtain ⟨hi0, hz0, hz1, hz2⟩ := HI.out
       refine wp_append_owncopy (enc := intL) (size := 1) wr.heap.size (.tmp 61) (.tmp 63) 25 3 i0 (.int .i64 0) 8 Try.underlying25 hi0 hz0 hz1 hz2 rfl (by omega) (by omega) (fun _ => rfl) rfl nb ((eval_slot a 61).trans h61) hnb hW u.beds u.a u.c ((eval_slot a 63).trans h63) HUL.out (HU.out.next (newer_trans HQ.out.2.1 hG)) hG.size ?_
       intro B c w1 ho hb _
       exact ⟨_, rfl, ⟨B, c, rfl, ho⟩, hb, below_next hG hb⟩
      ·intro listed a W hun hG hO hp
       have h6 := hO.slot 6 (by kernel_rfl)
       refine wp_yields (v := vi (i : Int)) ?_ ⟨_, rfl, rfl, newer_refl _, hG⟩
       simp [slotOf] at h6
       simp [execOp, go_sem, h6]
      ·intro listed a W hun hG hO hp
       have h65 : slotOf a 65 = (vi (i : Int)) := hp.1
       refine wp_makes (v := .slice (some ⟨W.heap.size, 0, none⟩) 1 1) (W' := W.alloc (.cells #[vi (i : Int)] 3)) ?_ ⟨_, rfl, ⟨_, rfl, hG.size, Whole.made _ _ _⟩, newer_allocH _ _, hG.alloc hG.size _⟩
       simp [slotOf] at h65
       simp [execOp, go_sem, h65]
      ·intro listed a W hun hG hO hp
       have h64 : listed.getD 10 false = false -> vCopyB wr.heap.size u.beds (slotOf a 64) W := hp.1
       have h66 : listed.getD 10 false = false -> vOneB wr.heap.size (i : Int) (slotOf a 66) W := hp.2.1
       obtain ⟨B, c, h64, ho⟩ := h64 hun
       obtain ⟨nb, h66, hnb, hW⟩ := h66 hun
       obtain ⟨hi0, hz0, hz1, hz2⟩ := HI.out
       have hl8 := HUL.out
       refine wp_append_one (.tmp 64) (.tmp 66) 25 rfl wr.heap.size 3 i0 (.int .i64 0) 8 Try.underlying25 hi0 hz0 hz1 hz2 rfl B u.beds.length c (u.beds.flatMap intL) ((eval_slot a 64).trans h64) ho ⟨nb, 0, none⟩ 1 (vi (i : Int)) ((eval_slot a 66).trans h66) (hW.at 0 rfl) rfl (by unfold maxLen; omega) (by omega) hG.size ?_
       intro g c' w1 hown hon
       have hB : Below wr.heap.size W w1 := by
        rcases hon with ⟨-, -, hg⟩ | ⟨-, hg⟩
        ·exact below_of_grown hg (own_ge_slice hown) hG.size
        ·exact below_of_grown (hg.but (some g)) (own_ge_slice hown) hG.size
       exact ⟨_, rfl, ⟨g, c', rfl, by rw [flatB_snoc]; exact hown⟩, hB, hG.trans hB⟩
      ·intro listed a W hun hG hO hp
       have h60 : slotOf a 60 = (vi u.frm) := hp.1
       have h67 : listed.getD 11 false = false -> vTwoB wr.heap.size u.beds (i : Int) (slotOf a 67) W := hp.2.1
       obtain ⟨g, c, h67, ho⟩ := h67 hun
       have hge := own_ge_slice ho
       have hok := row_of_own (enc := intL) (size := 1) (by omega) (fun _ => rfl) ho
       refine wp_yields (v := suV ⟨u.frm, u.beds ++ [(i : Int)], some ⟨g, 0, none⟩, c⟩) ?_ ⟨_, rfl, ⟨⟨u.frm, u.beds ++ [(i : Int)], some ⟨g, 0, none⟩, c⟩, rfl, rfl, rfl, hok, fun ad had => by injection had with had; rw [<- had]; exact hge⟩, newer_refl _, hG⟩
       simp [slotOf] at h60 h67
       simp [execOp, go_sem, h60, h67]
      ·intro listed a W hun hG hO hp
       have h58 : slotOf a 58 = (smV s) := hp.1
       have h68 : vSub wr.heap.size u (i : Int) (slotOf a 68) W := hp.2.1
       obtain ⟨u2, h68, hf2, hl2, hu2, hge2⟩ := h68
       refine wp_enters (f := 69) (args := #[smV s, suV u2]) ?_ ((HIH.out u2 W (newer_trans HQ.out.2.1 hG) hu2 hf2 hl2).mono ?_)
       ·simp [slotOf] at h58 h68
        simp [go_sem, h58, h68]
       ·rintro e w' ⟨⟨vs, A2, c2, rfl, hrv, hvi, hve⟩, hb⟩
        exact ⟨_, rfl, _, rfl, ⟨vs, A2, c2, rfl, hrv, hvi.high hG.size hge2, hve⟩, hb, below_next hG hb⟩
     ·intro wz hG
      rintro _ rfl _ rfl _ rfl _ rfl _ - _ rfl _ rfl _ - _ rfl _ - _ - _ - _ ⟨vs, A2, c2, rfl, hrv, hvi, hve⟩
      change wpList _ _ _ _ _ _
      simp only [Act.put, List.setIfInBounds_toArray, List.set_cons_zero, List.set_cons_succ, List.drop_succ_cons, List.drop_zero]
      have HR2 := Lib.hid (And.intro hrv (And.intro hvi hve))
      have HJ2 := Lib.hid (And.intro (HJ.out.next hG) (And.intro (newer_trans HQ.out.2.1 hG) (And.intro (HQ.out.2.2.1.below hG HQ.out.2.2.1.lt) (And.intro (HQ.out.2.2.2.below hG HQ.out.2.2.2.lt) hG))))
      have hfb : us.length + vs.length <= 13060694017 := by
       have h1 := part_few (cols := s.cs.length) (K := s.sd.K) (k := k) (r := q) (n := s.sd.n) HPL.out.2.2.2.2.2.1 HPL.out.2.2.2.2.2.2 (l := l) (i := i) (by have := HPL.out.2.2.2.2.2.1; rw [<- HPL.out.2.2.2.2.1] at this; omega)
       have h2 := surfs_few12 (cols := s.cs.length) (K := s.sd.K) (k := k) (r := q) (n := s.sd.n) HPL.out.2.2.2.2.2.1 HPL.out.2.2.2.2.2.2 (l ++ [i])
       have h3 : us.length = (partS s.sd.n s.cs.length s.sd.K k q l i).length := by have := congrArg List.length HJ.out.eq; simpa using this
       have h4 : vs.length = (surfsR s.sd.n s.cs.length s.sd.K k q (l ++ [i])).length := by have := congrArg List.length (HR2.out.2.2.trans HLL.out.1); simpa using this
       omega
      have HFB := Lib.hid hfb
      have hfar : ∀ x ∈ vs, ∀ ad, x.a = some ad -> (Value.slice A us.length c).ownBlock ≠ some ad.block := fun x hx ad had e => by
       have h1 := own_lt HJ.out.own _ e
       rcases HR2.out.2.1.hi x hx ad had with h2 | h2
       ·omega
       ·rw [had] at h2
        cases h2
      have HFR := Lib.hid hfar
      clear hrv hvi hve hG HJ HQ HIH HST hfb hfar x0 x1 u0 u1
      skip
      go_wp2_with (at_builtin; go_loud ((refine wpList_plain rfl fun _ hK => wp_append_all (enc := suL) (size := 2) (w.heap.size + 2) (.tmp 57) (.tmp 69) 49 27 i1 (.agg #[vi 0, .slice none 0 0]) 32 Try.underlying49 HI1.out.1 HI1.out.2.1 HI1.out.2.2.1 HI1.out.2.2.2 rfl (by omega) (fun _ => rfl) suL_one rfl A us.length c (us.flatMap suL) rfl HJ2.out.1.own vs A2 c2 rfl HR2.out.1 (by have := HFB.out; unfold maxLen; omega) (by have := HFB.out; omega) (by have := HN0.out; have := HJ2.out.2.2.2.2.size; omega) fun B c3 w5 hown hgr hat => hK _ _ ?_); have HE := Lib.hid (And.intro (HJ2.out.1.app (a := u.a) ⟨HR2.out.2.1.ok, HR2.out.2.1.ne, fun x hx ad had => .inl (by rcases HR2.out.2.1.hi x hx ad had with h2 | h2; (have := HN0.out; omega); (rw [had] at h2; cases h2))⟩ HFR.out hown hgr hat) (And.intro (HJ2.out.1.new (w := w) (Nat.le_add_right _ _) HJ2.out.2.1 hgr) (And.intro (HJ2.out.2.2.1.grown hgr (fun e => own_ne HJ2.out.1.own HJ2.out.2.2.1 (by decide) e.symm)) (HJ2.out.2.2.2.1.grown hgr (fun e => by have := own_ge HJ2.out.1.own _ e.symm; omega))))); have HSZ := Lib.hid hgr.size; clear hown hgr hat))
      refine ⟨⟨i + 1, us ++ vs, B, c3, by omega, by rw [List.length_append], rfl, ?_, HE.out.2.1, HE.out.2.2.1, HE.out.2.2.2, by have := HN0.out; have := HJ2.out.2.2.2.2.size; have := HSZ.out; omega⟩, ?_⟩
      ·have h1 := HE.out.1
       rw [HR2.out.2.2, HLL.out.1, <- List.map_append] at h1
       unfold partS
       rw [if_pos HLL.out.2]
       exact h1
      ·simp [intOf]
       omega
    ·obtain rfl : i = n := by omega
     have HZ := HJ.out.out (H := w.heap.size) (Nat.le_add_right _ _)
     go_wp2_with fail
     go_ret
     rw [HPL.out.2.2.2.2.1, part_all] at HZ
     exact ⟨HZ, HQ.out.2.1⟩
 ·have hl1 : 0 < u.beds.length := by rw [hul]; exact List.length_pos_iff.2 hln
  have hl2 : ¬ u.beds.length = 0 := by omega
  have hl1i : (0 : Int) < u.beds.length := by omega
  have hl2i : ¬ (u.beds.length : Int) = 0 := by omega
  have hub2 : u.beds ≠ [] := by intro e; rw [e] at hl1; simp at hl1
  have HB := Lib.hid (isSurface_any s u _ (hok.next hnw) (hu.next hnw) hs HUL.out)
  have HKE := Lib.hid (And.intro hxb (And.intro hub hnw))
  have HUL2 := Lib.hid hul
  clear hul
  cases hsf : surfB s.sd u.frm u.beds with
  | false =>
   rw [hsf] at HB
   have HOW : Hid (ownS s.cs.length s.sd.K k l = []) := Lib.hid (by have h := own_no hs hw (k := k) (by rw [<- hf, <- hl]; exact hsf); rw [sd_len] at h; exact h)
   clear hok hu hs hnw hxb hub hy0 hyn ea hi0 hz0 hz1 hz2 hi1 hy1 hy2 hy3 hsize cy hf hl hw hr hn hsf
   by_cases hr0 : r = 0
   ·subst hr0
    have hge : (s.cs.length : Int) <= u.frm + (u.beds.length : Int) := by have h1 := HP0.out.1; have h2 := HP0.out.2.2.2.1; have h3 := congrArg List.length HP0.out.2.1; rw [List.length_map] at h3; omega
    skip
    rw [<- HSA.out] at x0
    go_enter Try.func69, Try.ntmps69
    go_wp2_with fail
    refine (HB.out).mono ?_
    rintro e w2 ⟨rfl, hb⟩
    have H2 := Lib.hid (And.intro (newer_trans HKE.out.2.2 hb) (And.intro (HKE.out.1.below hb HKE.out.1.lt) (HKE.out.2.1.below hb HKE.out.2.1.lt)))
    have HS2 : Hid (w.heap.size + 2 <= w2.heap.size) := Lib.hid (by have h1 := hb.size; simp only [World.size_alloc] at h1; omega)
    clear x0 x1 u0 u1 hb HB HKE H0
    have x0 := H2.out.2.1.at 0 (v := .slice s.a s.cs.length s.c) rfl
    rw [HSA.out] at x0
    have x1 := H2.out.2.1.at 1 (v := vi s.least) rfl
    have u0 := H2.out.2.2.at 0 (v := vi u.frm) rfl
    have u1 := H2.out.2.2.at 1 (v := .slice u.a u.beds.length u.c) rfl
    have HS0 : Hid (SfJ (w.heap.size + 2) u.a ((ownS s.cs.length s.sd.K k l).map (suN k)) [] none 0 w2) := Lib.hid (by rw [HOW.out]; exact SfJ.none _ _ _)
    have H0 := Lib.hid True.intro
    go_wp2_with fail
    go_ret
    exact ⟨HS0.out.out (Nat.le_add_right _ _), H2.out.1⟩
   ·obtain ⟨q, rfl⟩ : ∃ q, r = q + 1 := ⟨r - 1, by omega⟩
    have hge : ¬ (s.cs.length : Int) <= u.frm + (u.beds.length : Int) := by have h1 := HP0.out.1; have h2 := HP0.out.2.2.2.1; have h3 := congrArg List.length HP0.out.2.1; rw [List.length_map] at h3; omega
    skip
    have HI0 := Lib.hid (And.intro HOK.out (HIH0.out q rfl))
    have HPL := Lib.hid (And.intro HP0.out.1 (And.intro HP0.out.2.1 (And.intro HP0.out.2.2.1 (And.intro HP0.out.2.2.2.1 (And.intro HP0.out.2.2.2.2 (And.intro (show s.sd.n <= 5 by rw [<- HP0.out.2.2.2.2]; exact hnb.2) (show q <= 12 by have := HP0.out.2.2.2.1; omega)))))))
    clear HIH0
    rw [<- HSA.out] at x0
    go_enter Try.func69, Try.ntmps69
    go_wp2_with fail
    refine (HB.out).mono ?_
    rintro e w2 ⟨rfl, hb⟩
    have H2 := Lib.hid (And.intro (newer_trans HKE.out.2.2 hb) (And.intro (HKE.out.1.below hb HKE.out.1.lt) (HKE.out.2.1.below hb HKE.out.2.1.lt)))
    have HS2 : Hid (w.heap.size + 2 <= w2.heap.size) := Lib.hid (by have h1 := hb.size; simp only [World.size_alloc] at h1; omega)
    clear x0 x1 u0 u1 hb HB HKE H0
    have x0 := H2.out.2.1.at 0 (v := .slice s.a s.cs.length s.c) rfl
    rw [HSA.out] at x0
    have x1 := H2.out.2.1.at 1 (v := vi s.least) rfl
    have u0 := H2.out.2.2.at 0 (v := vi u.frm) rfl
    have u1 := H2.out.2.2.at 1 (v := .slice u.a u.beds.length u.c) rfl
    have HS0 : Hid (SfJ (w.heap.size + 2) u.a ((ownS s.cs.length s.sd.K k l).map (suN k)) [] none 0 w2) := Lib.hid (by rw [HOW.out]; exact SfJ.none _ _ _)
    have H0 := Lib.hid True.intro
    go_wp2_with fail
    go_loopw [5, 6] (fun s5 s6 wr => ∃ (i : Nat) (us : List Su) (A : Option Addr) (c : Nat), i <= n /\ s5 = .slice A us.length c /\ s6 = vi i /\ SfJ (w.heap.size + 2) u.a ((partS s.sd.n s.cs.length s.sd.K k q l i).map (suN k)) us A c wr /\ newer w wr /\ Whole wr w.heap.size 24 (smC s) /\ Whole wr (w.heap.size + 1) 27 (suC u) /\ w.heap.size + 2 <= wr.heap.size) (fun _ s6 _ => n - (intOf s6).toNat)
    case atStart => exact ⟨0, [], none, 0, Nat.zero_le _, rfl, rfl, HS0.out, H2.out.1, H2.out.2.1, H2.out.2.2, HS2.out⟩
    case round =>
     obtain ⟨i, us, A, c, hi, rfl, rfl, hj, q2, q3, q4, q5⟩ := hrel
     clear x0 x1 u0 u1 H0 HS0
     have HJ := Lib.hid hj
     have HQ := Lib.hid (And.intro hi (And.intro q2 (And.intro q3 q4)))
     have HN0 := Lib.hid q5
     have cy := keep_cell HCY.out q2
     have x0 := q3.at 0 (v := .slice s.a s.cs.length s.c) rfl
     rw [HSA.out] at x0
     have x1 := q3.at 1 (v := vi s.least) rfl
     have u0 := q4.at 0 (v := vi u.frm) rfl
     have u1 := q4.at 1 (v := .slice u.a u.beds.length u.c) rfl
     clear hj q2 q3 q4 q5
     by_cases hlt : i < n
     ·have hlti : (i : Int) < n := by omega
      obtain ⟨km, hkm0⟩ : ∃ km, km = u.beds.length - 1 := ⟨_, rfl⟩
      obtain ⟨ub, uo, eu, d0⟩ := row1k (HU.out.next HQ.out.2.1) (k := km) (by omega)
      have HEU := Lib.hid eu
      rw [eu] at u1
      have hkm : (km : Int) < u.beds.length := by omega
      have c51 : IntKind.i64.wrap ((u.beds.length : Int) - 1) = (km : Int) := by rw [IntWalk.i64_in _ (by have := HUL.out; omega)]; omega
      obtain ⟨p, hp⟩ : ∃ p, p = iAt u.beds km := ⟨_, rfl⟩
      rw [<- hp] at d0
      have hpl : iAt (l.map fun x : Nat => (x : Int)) (l.length - 1) = p := by rw [hp, HPL.out.2.1, hkm0, HUL2.out]
      have hpb : 0 <= p /\ p < n := by
       obtain ⟨y, hy, rfl⟩ := last_at hln hpl
       have h1 := way_lt l (l.length - 1) y HPL.out.2.2.1 (by rw [<- List.getLast?_eq_getElem?]; exact hy)
       rw [<- HPL.out.2.2.2.2.1] at h1
       omega
      have c54 : IntKind.i64.wrap ((i : Int) - p) = (i : Int) - p := IntWalk.i64_in _ (by omega)
      have hnl := near_last (b := i) hln hpl
      have HC := Lib.hid (fun W => in_any ((i : Int) - p) (-1) 1 W)
      clear eu hp hpl hpb hkm0
      cases hq : inB ((i : Int) - p) (-1) 1 with
      | false =>
       rw [hq] at HC hnl
       clear hq
       go_wp2_with fail
       refine (HC.out _).mono ?_
       rintro e w2 ⟨rfl, rfl⟩
       go_wp2_with fail
       refine ⟨⟨i + 1, us, A, c, by omega, rfl, rfl, ?_, HQ.out.2.1, HQ.out.2.2.1, HQ.out.2.2.2, HN0.out⟩, ?_⟩
       ·unfold partS
        rw [hnl, if_neg (by decide), List.append_nil]
        exact HJ.out
       ·simp [intOf]
        omega
      | true =>
       rw [hq] at HC hnl
       have hnr := hnl
       clear hq hnl
       go_wp2_with fail
       refine (HC.out _).mono ?_
       rintro e w2 ⟨rfl, rfl⟩
       clear HC
       have hni : partS.nearB l i = true := hnr
       have HIH : Hid (∀ (u2 : Su) (W : World), newer w W -> SuOk u2 W -> u2.frm = u.frm -> u2.beds = u.beds ++ [(i : Int)] -> Calls Try.prog 69 #[smV s, suV u2] W fun e w' => surfOut W.heap.size u2.a ((surfsR s.sd.n s.cs.length s.sd.K k q (l ++ [i])).map (suN k)) e w' /\ newer W w') := Lib.hid (fun u2 W hW hu2 hf2 hl2 => HI0.out.2 (l ++ [i]) u2 W (HI0.out.1.next hW) hu2 (by rw [hf2]; exact HPL.out.1) (by rw [hl2, HPL.out.2.1, List.map_append]; rfl) (way_snoc l i (by rw [<- HPL.out.2.2.2.2.1]; exact hlt) HPL.out.2.2.1 (near_iff.1 hni)) (by rw [List.length_append, List.length_singleton]; have := HPL.out.2.2.2.1; omega))
       obtain ⟨LL, hLL⟩ : ∃ LL, LL = (surfsR s.sd.n s.cs.length s.sd.K k q (l ++ [i])).map (suN k) := ⟨_, rfl⟩
       rw [<- hLL] at HIH
       have HLL := Lib.hid (And.intro hLL hni)
       clear hLL hni
       go_upto_region 11 with fail
       clear u1 x0
       have x0 := HQ.out.2.2.1.at 0 (v := .slice s.a s.cs.length s.c) rfl
       have u1 := HQ.out.2.2.2.at 1 (v := .slice u.a u.beds.length u.c) rfl
       have HST : Hid (∀ ii v W W', pickD [vIs (.slice A us.length c), vIs (smV s), vIs (.pointer (some ⟨w.heap.size + 1, 0, none⟩)), vIs (vi u.frm), vNilB wr.heap.size, vIs (.pointer (some ⟨w.heap.size + 1, 1, none⟩)), vIs (.slice u.a u.beds.length u.c), vCopyB wr.heap.size u.beds, vIs (vi (i : Int)), vOneB wr.heap.size (i : Int), vTwoB wr.heap.size u.beds (i : Int), vSub wr.heap.size u (i : Int), vSurfs wr.heap.size LL] ii v W -> newer W W' -> pickD [vIs (.slice A us.length c), vIs (smV s), vIs (.pointer (some ⟨w.heap.size + 1, 0, none⟩)), vIs (vi u.frm), vNilB wr.heap.size, vIs (.pointer (some ⟨w.heap.size + 1, 1, none⟩)), vIs (.slice u.a u.beds.length u.c), vCopyB wr.heap.size u.beds, vIs (vi (i : Int)), vOneB wr.heap.size (i : Int), vTwoB wr.heap.size u.beds (i : Int), vSub wr.heap.size u (i : Int), vSurfs wr.heap.size LL] ii v W') := Lib.hid (pickD_stable _ ⟨vIs_st, vIs_st, vIs_st, vIs_st, vNilB_st, vIs_st, vIs_st, vCopyB_st, vIs_st, vOneB_st, vTwoB_st, vSub_st, vSurfs_st, trivial⟩)
       refine wp_words (by kernel_rfl) (region_live 13 (by kernel_rfl) (by kernel_rfl) (fun W => Below wr.heap.size wr W) (relTwo wr.heap.size 10 10) [none, none, none, none, some 7, none, none, some 10, none, some 10, some 11, none, none] (pickD [vIs (.slice A us.length c), vIs (smV s), vIs (.pointer (some ⟨w.heap.size + 1, 0, none⟩)), vIs (vi u.frm), vNilB wr.heap.size, vIs (.pointer (some ⟨w.heap.size + 1, 1, none⟩)), vIs (.slice u.a u.beds.length u.c), vCopyB wr.heap.size u.beds, vIs (vi (i : Int)), vOneB wr.heap.size (i : Int), vTwoB wr.heap.size u.beds (i : Int), vSub wr.heap.size u (i : Int), vSurfs wr.heap.size LL]) ?_ (Below.refl _ wr).drew ?_ ?_)
       ·intro listed i j v W W' hi hj hui hlj hpi hcl hk hD hR
        by_cases h5 : i = 10
        ·subst h5
         obtain rfl | rfl | rfl | rfl | rfl | rfl | rfl | rfl | rfl | rfl | rfl | rfl | rfl | hj9 : j = 0 ∨ j = 1 ∨ j = 2 ∨ j = 3 ∨ j = 4 ∨ j = 5 ∨ j = 6 ∨ j = 7 ∨ j = 8 ∨ j = 9 ∨ j = 10 ∨ j = 11 ∨ j = 12 ∨ 13 <= j := by omega
         ·exact hD
         ·exact hD
         ·exact hD
         ·exact hD
         ·have h1 := (hk 7 (by kernel_rfl)).2
          rw [hpi 7 (by kernel_rfl)] at h1
          cases h1
         ·exact hD
         ·exact hD
         ·exact absurd rfl (hk 10 (by kernel_rfl)).1
         ·exact hD
         ·exact absurd rfl (hk 10 (by kernel_rfl)).1
         ·exact absurd rfl hj
         ·rw [show listed.getD 10 false = true from (hcl 11 10 (by omega) (by kernel_rfl) hlj)] at hui
          cases hui
         ·rw [show listed.getD 10 false = true from (hcl 11 10 (by omega) (by kernel_rfl) (hcl 12 11 (by omega) (by kernel_rfl) hlj))] at hui
          cases hui
         ·obtain ⟨m, rfl⟩ : ∃ m, j = m + 13 := ⟨j - 13, by omega⟩
          exact trivial
        ·have hrl : relTwo wr.heap.size 10 10 i = newer := by
          unfold relTwo
          rw [show (Nat.beq i 10 || Nat.beq i 10) = false by
           cases h1 : Nat.beq i 10
           ·rfl
           ·exact absurd (Nat.eq_of_beq_eq_true h1) h5]
         rw [hrl] at hR
         exact HST.out j v W W' hD hR
       ·refine ⟨?_, ?_, ?_, ?_, ?_, ?_, ?_, ?_, ?_, ?_, ?_, ?_, ?_, trivial⟩
        ·intro listed a W hun hG hO hp
         have h5 := hO.slot 5 (by kernel_rfl)
         refine wp_yields (v := .slice A us.length c) ?_ ⟨_, rfl, rfl, newer_refl _, hG⟩
         simp [slotOf] at h5
         simp [execOp, go_sem, h5]
        ·intro listed a W hun hG hO hp
         have h2 := hO.slot 2 (by kernel_rfl)
         have c0 := keep_cell x0 hG
         have c1 := keep_cell x1 hG
         refine wp_yields (v := smV s) ?_ ⟨_, rfl, rfl, newer_refl _, hG⟩
         simp [slotOf] at h2
         simp [execOp, go_sem, h2, c0, c1]
        ·intro listed a W hun hG hO hp
         have h3 := hO.slot 3 (by kernel_rfl)
         refine wp_yields (v := (.pointer (some ⟨w.heap.size + 1, 0, none⟩))) ?_ ⟨_, rfl, rfl, newer_refl _, hG⟩
         simp [slotOf] at h3
         simp [execOp, go_sem, h3]
        ·intro listed a W hun hG hO hp
         have h59 : slotOf a 59 = (.pointer (some ⟨w.heap.size + 1, 0, none⟩)) := hp.1
         have c0 := keep_cell u0 hG
         refine wp_yields (v := vi u.frm) ?_ ⟨_, rfl, rfl, newer_refl _, hG⟩
         simp [slotOf] at h59
         simp [execOp, go_sem, h59, c0]
        ·intro listed a W hun hG hO hp
         refine wp_makes (v := .slice (some ⟨W.heap.size, 0, none⟩) 0 0) (W' := W.alloc (.cells #[] 3)) ?_ ⟨_, rfl, ⟨_, rfl, hG.size, Whole.made _ _ _⟩, newer_allocH _ _, hG.alloc hG.size _⟩
         simp [execOp, go_sem]
        ·intro listed a W hun hG hO hp
         have h3 := hO.slot 3 (by kernel_rfl)
         refine wp_yields (v := (.pointer (some ⟨w.heap.size + 1, 1, none⟩))) ?_ ⟨_, rfl, rfl, newer_refl _, hG⟩
         simp [slotOf] at h3
         simp [execOp, go_sem, h3]
        ·intro listed a W hun hG hO hp
         have h62 : slotOf a 62 = (.pointer (some ⟨w.heap.size + 1, 1, none⟩)) := hp.1
         have c0 := keep_cell u1 hG
         refine wp_yields (v := .slice u.a u.beds.length u.c) ?_ ⟨_, rfl, rfl, newer_refl _, hG⟩
         simp [slotOf] at h62
         simp [execOp, go_sem, h62, c0]
        ·intro listed a W hun hG hO hp
         have h61 : listed.getD 7 false = false -> vNilB wr.heap.size (slotOf a 61) W := hp.1
         have h63 : slotOf a 63 = (.slice u.a u.beds.length u.c) := hp.2.1
         obtain ⟨nb, h61, hnb, hW⟩ := h61 hun
         obtain ⟨hi0, hz0, hz1, hz2⟩ := HI.out
         refine wp_append_owncopy (enc := intL) (size := 1) wr.heap.size (.tmp 61) (.tmp 63) 25 3 i0 (.int .i64 0) 8 Try.underlying25 hi0 hz0 hz1 hz2 rfl (by omega) (by omega) (fun _ => rfl) rfl nb ((eval_slot a 61).trans h61) hnb hW u.beds u.a u.c ((eval_slot a 63).trans h63) HUL.out (HU.out.next (newer_trans HQ.out.2.1 hG)) hG.size ?_
         intro B c w1 ho hb _
         exact ⟨_, rfl, ⟨B, c, rfl, ho⟩, hb, below_next hG hb⟩
        ·intro listed a W hun hG hO hp
         have h6 := hO.slot 6 (by kernel_rfl)
         refine wp_yields (v := vi (i : Int)) ?_ ⟨_, rfl, rfl, newer_refl _, hG⟩
         simp [slotOf] at h6
         simp [execOp, go_sem, h6]
        ·intro listed a W hun hG hO hp
         have h65 : slotOf a 65 = (vi (i : Int)) := hp.1
         refine wp_makes (v := .slice (some ⟨W.heap.size, 0, none⟩) 1 1) (W' := W.alloc (.cells #[vi (i : Int)] 3)) ?_ ⟨_, rfl, ⟨_, rfl, hG.size, Whole.made _ _ _⟩, newer_allocH _ _, hG.alloc hG.size _⟩
         simp [slotOf] at h65
         simp [execOp, go_sem, h65]
        ·intro listed a W hun hG hO hp
         have h64 : listed.getD 10 false = false -> vCopyB wr.heap.size u.beds (slotOf a 64) W := hp.1
         have h66 : listed.getD 10 false = false -> vOneB wr.heap.size (i : Int) (slotOf a 66) W := hp.2.1
         obtain ⟨B, c, h64, ho⟩ := h64 hun
         obtain ⟨nb, h66, hnb, hW⟩ := h66 hun
         obtain ⟨hi0, hz0, hz1, hz2⟩ := HI.out
         have hl8 := HUL.out
         refine wp_append_one (.tmp 64) (.tmp 66) 25 rfl wr.heap.size 3 i0 (.int .i64 0) 8 Try.underlying25 hi0 hz0 hz1 hz2 rfl B u.beds.length c (u.beds.flatMap intL) ((eval_slot a 64).trans h64) ho ⟨nb, 0, none⟩ 1 (vi (i : Int)) ((eval_slot a 66).trans h66) (hW.at 0 rfl) rfl (by unfold maxLen; omega) (by omega) hG.size ?_
         intro g c' w1 hown hon
         have hB : Below wr.heap.size W w1 := by
          rcases hon with ⟨-, -, hg⟩ | ⟨-, hg⟩
          ·exact below_of_grown hg (own_ge_slice hown) hG.size
          ·exact below_of_grown (hg.but (some g)) (own_ge_slice hown) hG.size
         exact ⟨_, rfl, ⟨g, c', rfl, by rw [flatB_snoc]; exact hown⟩, hB, hG.trans hB⟩
        ·intro listed a W hun hG hO hp
         have h60 : slotOf a 60 = (vi u.frm) := hp.1
         have h67 : listed.getD 11 false = false -> vTwoB wr.heap.size u.beds (i : Int) (slotOf a 67) W := hp.2.1
         obtain ⟨g, c, h67, ho⟩ := h67 hun
         have hge := own_ge_slice ho
         have hok := row_of_own (enc := intL) (size := 1) (by omega) (fun _ => rfl) ho
         refine wp_yields (v := suV ⟨u.frm, u.beds ++ [(i : Int)], some ⟨g, 0, none⟩, c⟩) ?_ ⟨_, rfl, ⟨⟨u.frm, u.beds ++ [(i : Int)], some ⟨g, 0, none⟩, c⟩, rfl, rfl, rfl, hok, fun ad had => by injection had with had; rw [<- had]; exact hge⟩, newer_refl _, hG⟩
         simp [slotOf] at h60 h67
         simp [execOp, go_sem, h60, h67]
        ·intro listed a W hun hG hO hp
         have h58 : slotOf a 58 = (smV s) := hp.1
         have h68 : vSub wr.heap.size u (i : Int) (slotOf a 68) W := hp.2.1
         obtain ⟨u2, h68, hf2, hl2, hu2, hge2⟩ := h68
         refine wp_enters (f := 69) (args := #[smV s, suV u2]) ?_ ((HIH.out u2 W (newer_trans HQ.out.2.1 hG) hu2 hf2 hl2).mono ?_)
         ·simp [slotOf] at h58 h68
          simp [go_sem, h58, h68]
         ·rintro e w' ⟨⟨vs, A2, c2, rfl, hrv, hvi, hve⟩, hb⟩
          exact ⟨_, rfl, _, rfl, ⟨vs, A2, c2, rfl, hrv, hvi.high hG.size hge2, hve⟩, hb, below_next hG hb⟩
       ·intro wz hG
        rintro _ rfl _ rfl _ rfl _ rfl _ - _ rfl _ rfl _ - _ rfl _ - _ - _ - _ ⟨vs, A2, c2, rfl, hrv, hvi, hve⟩
        change wpList _ _ _ _ _ _
        simp only [Act.put, List.setIfInBounds_toArray, List.set_cons_zero, List.set_cons_succ, List.drop_succ_cons, List.drop_zero]
        have HR2 := Lib.hid (And.intro hrv (And.intro hvi hve))
        have HJ2 := Lib.hid (And.intro (HJ.out.next hG) (And.intro (newer_trans HQ.out.2.1 hG) (And.intro (HQ.out.2.2.1.below hG HQ.out.2.2.1.lt) (And.intro (HQ.out.2.2.2.below hG HQ.out.2.2.2.lt) hG))))
        have hfb : us.length + vs.length <= 13060694017 := by
         have h1 := part_few (cols := s.cs.length) (K := s.sd.K) (k := k) (r := q) (n := s.sd.n) HPL.out.2.2.2.2.2.1 HPL.out.2.2.2.2.2.2 (l := l) (i := i) (by have := HPL.out.2.2.2.2.2.1; rw [<- HPL.out.2.2.2.2.1] at this; omega)
         have h2 := surfs_few12 (cols := s.cs.length) (K := s.sd.K) (k := k) (r := q) (n := s.sd.n) HPL.out.2.2.2.2.2.1 HPL.out.2.2.2.2.2.2 (l ++ [i])
         have h3 : us.length = (partS s.sd.n s.cs.length s.sd.K k q l i).length := by have := congrArg List.length HJ.out.eq; simpa using this
         have h4 : vs.length = (surfsR s.sd.n s.cs.length s.sd.K k q (l ++ [i])).length := by have := congrArg List.length (HR2.out.2.2.trans HLL.out.1); simpa using this
         omega
        have HFB := Lib.hid hfb
        have hfar : ∀ x ∈ vs, ∀ ad, x.a = some ad -> (Value.slice A us.length c).ownBlock ≠ some ad.block := fun x hx ad had e => by
         have h1 := own_lt HJ.out.own _ e
         rcases HR2.out.2.1.hi x hx ad had with h2 | h2
         ·omega
         ·rw [had] at h2
          cases h2
        have HFR := Lib.hid hfar
        clear hrv hvi hve hG HJ HQ HIH HST hfb hfar x0 x1 u0 u1
        skip
        go_wp2_with (at_builtin; go_loud ((refine wpList_plain rfl fun _ hK => wp_append_all (enc := suL) (size := 2) (w.heap.size + 2) (.tmp 57) (.tmp 69) 49 27 i1 (.agg #[vi 0, .slice none 0 0]) 32 Try.underlying49 HI1.out.1 HI1.out.2.1 HI1.out.2.2.1 HI1.out.2.2.2 rfl (by omega) (fun _ => rfl) suL_one rfl A us.length c (us.flatMap suL) rfl HJ2.out.1.own vs A2 c2 rfl HR2.out.1 (by have := HFB.out; unfold maxLen; omega) (by have := HFB.out; omega) (by have := HN0.out; have := HJ2.out.2.2.2.2.size; omega) fun B c3 w5 hown hgr hat => hK _ _ ?_); have HE := Lib.hid (And.intro (HJ2.out.1.app (a := u.a) ⟨HR2.out.2.1.ok, HR2.out.2.1.ne, fun x hx ad had => .inl (by rcases HR2.out.2.1.hi x hx ad had with h2 | h2; (have := HN0.out; omega); (rw [had] at h2; cases h2))⟩ HFR.out hown hgr hat) (And.intro (HJ2.out.1.new (w := w) (Nat.le_add_right _ _) HJ2.out.2.1 hgr) (And.intro (HJ2.out.2.2.1.grown hgr (fun e => own_ne HJ2.out.1.own HJ2.out.2.2.1 (by decide) e.symm)) (HJ2.out.2.2.2.1.grown hgr (fun e => by have := own_ge HJ2.out.1.own _ e.symm; omega))))); have HSZ := Lib.hid hgr.size; clear hown hgr hat))
        refine ⟨⟨i + 1, us ++ vs, B, c3, by omega, by rw [List.length_append], rfl, ?_, HE.out.2.1, HE.out.2.2.1, HE.out.2.2.2, by have := HN0.out; have := HJ2.out.2.2.2.2.size; have := HSZ.out; omega⟩, ?_⟩
        ·have h1 := HE.out.1
         rw [HR2.out.2.2, HLL.out.1, <- List.map_append] at h1
         unfold partS
         rw [if_pos HLL.out.2]
         exact h1
        ·simp [intOf]
         omega
     ·obtain rfl : i = n := by omega
      have HZ := HJ.out.out (H := w.heap.size) (Nat.le_add_right _ _)
      go_wp2_with fail
      go_ret
      rw [HPL.out.2.2.2.2.1, part_all] at HZ
      exact ⟨HZ, HQ.out.2.1⟩
  | true =>
   rw [hsf] at HB
   have HOW : Hid (ownS s.cs.length s.sd.K k l = [l]) := Lib.hid (by have h := own_yes hs hln (k := k) (by rw [<- hf, <- hl]; exact hsf); rw [sd_len] at h; exact h)
   clear hok hu hs hnw hxb hub hy0 hyn ea hi0 hz0 hz1 hz2 hi1 hy1 hy2 hy3 hsize cy hf hl hw hr hn hsf
   by_cases hr0 : r = 0
   ·subst hr0
    have hge : (s.cs.length : Int) <= u.frm + (u.beds.length : Int) := by have h1 := HP0.out.1; have h2 := HP0.out.2.2.2.1; have h3 := congrArg List.length HP0.out.2.1; rw [List.length_map] at h3; omega
    skip
    rw [<- HSA.out] at x0
    go_enter Try.func69, Try.ntmps69
    go_wp2_with fail
    refine (HB.out).mono ?_
    rintro e w2 ⟨rfl, hb⟩
    have H2 := Lib.hid (And.intro (newer_trans HKE.out.2.2 hb) (And.intro (HKE.out.1.below hb HKE.out.1.lt) (HKE.out.2.1.below hb HKE.out.2.1.lt)))
    have HS2 : Hid (w.heap.size + 2 <= w2.heap.size) := Lib.hid (by have h1 := hb.size; simp only [World.size_alloc] at h1; omega)
    clear x0 x1 u0 u1 hb HB HKE H0
    have x0 := H2.out.2.1.at 0 (v := .slice s.a s.cs.length s.c) rfl
    rw [HSA.out] at x0
    have x1 := H2.out.2.1.at 1 (v := vi s.least) rfl
    have u0 := H2.out.2.2.at 0 (v := vi u.frm) rfl
    have u1 := H2.out.2.2.at 1 (v := .slice u.a u.beds.length u.c) rfl
    have hn1 := newer_allocH w2 (.cells (suC u) 27)
    have HRW := Lib.hid (row_su (Whole.made w2 27 (suC u)))
    have H3 := Lib.hid (And.intro (newer_trans H2.out.1 hn1) (And.intro (H2.out.2.1.below hn1 H2.out.2.1.lt) (H2.out.2.2.below hn1 H2.out.2.2.lt)))
    have HSI : Hid (SfIn (w.heap.size + 2) u.a [u] (w2.alloc (.cells (suC u) 27))) := Lib.hid ⟨fun x hx => by obtain rfl := List.mem_singleton.1 hx; exact HU.out.next H3.out.1, fun x hx => by obtain rfl := List.mem_singleton.1 hx; exact hub2, fun x hx ad had => by obtain rfl := List.mem_singleton.1 hx; exact .inr rfl⟩
    have HNO : Hid (SfJ (w.heap.size + 2) u.a [] [] none 0 (w2.alloc (.cells (suC u) 27))) := Lib.hid (SfJ.none _ _ _)
    have H0 := Lib.hid True.intro
    clear hn1
    go_wp2_with (at_builtin; go_loud ((refine wpList_plain rfl fun _ hK => wp_append_all (enc := suL) (size := 2) (w.heap.size + 2) (.tmp 17) (.tmp 19) 49 27 i1 (.agg #[vi 0, .slice none 0 0]) 32 Try.underlying49 HI1.out.1 HI1.out.2.1 HI1.out.2.2.1 HI1.out.2.2.2 rfl (by omega) (fun _ => rfl) suL_one rfl none 0 0 [] rfl HNO.out.own [u] (some ⟨w2.heap.size, 0, none⟩) 1 rfl HRW.out (by unfold maxLen; simp only [List.length_singleton]; omega) (by simp only [List.length_singleton]; omega) (by have := HS2.out; rw [World.size_alloc]; omega) fun B c3 w5 hown hgr hat => hK _ _ ?_); have HE := Lib.hid (And.intro (HNO.out.app (a := u.a) HSI.out (fun x hx ad had e => by cases e) hown hgr hat) (And.intro (HNO.out.new (w := w) (Nat.le_add_right _ _) H3.out.1 hgr) (And.intro (H3.out.2.1.grown hgr (fun e => by cases e)) (H3.out.2.2.grown hgr (fun e => by cases e))))); have HSZ : Hid (w.heap.size + 2 <= w5.heap.size) := Lib.hid (by have h1 := hgr.size; have h2 := HS2.out; rw [World.size_alloc] at h1; omega); clear hown hgr hat x0 x1 u0 u1; have x0 := HE.out.2.2.1.at 0 (v := .slice s.a s.cs.length s.c) rfl; rw [HSA.out] at x0; have x1 := HE.out.2.2.1.at 1 (v := vi s.least) rfl; have u0 := HE.out.2.2.2.at 0 (v := vi u.frm) rfl; have u1 := HE.out.2.2.2.at 1 (v := .slice u.a u.beds.length u.c) rfl))
    have HS0 : Hid (SfJ (w.heap.size + 2) u.a ((ownS s.cs.length s.sd.K k l).map (suN k)) [u] B c3 w5) := Lib.hid (by
     have h1 := HE.out.1
     rw [HOW.out]
     have h2 : ([] ++ [u].map suK : List (Int × List Int)) = [l].map (suN k) := by
      show [(u.frm, u.beds)] = [((k : Int), l.map fun x : Nat => (x : Int))]
      rw [HP0.out.1, HP0.out.2.1]
     rw [h2] at h1
     exact h1)
    go_ret
    exact ⟨HS0.out.out (Nat.le_add_right _ _), HE.out.2.1⟩
   ·obtain ⟨q, rfl⟩ : ∃ q, r = q + 1 := ⟨r - 1, by omega⟩
    have hge : ¬ (s.cs.length : Int) <= u.frm + (u.beds.length : Int) := by have h1 := HP0.out.1; have h2 := HP0.out.2.2.2.1; have h3 := congrArg List.length HP0.out.2.1; rw [List.length_map] at h3; omega
    skip
    have HI0 := Lib.hid (And.intro HOK.out (HIH0.out q rfl))
    have HPL := Lib.hid (And.intro HP0.out.1 (And.intro HP0.out.2.1 (And.intro HP0.out.2.2.1 (And.intro HP0.out.2.2.2.1 (And.intro HP0.out.2.2.2.2 (And.intro (show s.sd.n <= 5 by rw [<- HP0.out.2.2.2.2]; exact hnb.2) (show q <= 12 by have := HP0.out.2.2.2.1; omega)))))))
    clear HIH0
    rw [<- HSA.out] at x0
    go_enter Try.func69, Try.ntmps69
    go_wp2_with fail
    refine (HB.out).mono ?_
    rintro e w2 ⟨rfl, hb⟩
    have H2 := Lib.hid (And.intro (newer_trans HKE.out.2.2 hb) (And.intro (HKE.out.1.below hb HKE.out.1.lt) (HKE.out.2.1.below hb HKE.out.2.1.lt)))
    have HS2 : Hid (w.heap.size + 2 <= w2.heap.size) := Lib.hid (by have h1 := hb.size; simp only [World.size_alloc] at h1; omega)
    clear x0 x1 u0 u1 hb HB HKE H0
    have x0 := H2.out.2.1.at 0 (v := .slice s.a s.cs.length s.c) rfl
    rw [HSA.out] at x0
    have x1 := H2.out.2.1.at 1 (v := vi s.least) rfl
    have u0 := H2.out.2.2.at 0 (v := vi u.frm) rfl
    have u1 := H2.out.2.2.at 1 (v := .slice u.a u.beds.length u.c) rfl
    have hn1 := newer_allocH w2 (.cells (suC u) 27)
    have HRW := Lib.hid (row_su (Whole.made w2 27 (suC u)))
    have H3 := Lib.hid (And.intro (newer_trans H2.out.1 hn1) (And.intro (H2.out.2.1.below hn1 H2.out.2.1.lt) (H2.out.2.2.below hn1 H2.out.2.2.lt)))
    have HSI : Hid (SfIn (w.heap.size + 2) u.a [u] (w2.alloc (.cells (suC u) 27))) := Lib.hid ⟨fun x hx => by obtain rfl := List.mem_singleton.1 hx; exact HU.out.next H3.out.1, fun x hx => by obtain rfl := List.mem_singleton.1 hx; exact hub2, fun x hx ad had => by obtain rfl := List.mem_singleton.1 hx; exact .inr rfl⟩
    have HNO : Hid (SfJ (w.heap.size + 2) u.a [] [] none 0 (w2.alloc (.cells (suC u) 27))) := Lib.hid (SfJ.none _ _ _)
    have H0 := Lib.hid True.intro
    clear hn1
    go_wp2_with (at_builtin; go_loud ((refine wpList_plain rfl fun _ hK => wp_append_all (enc := suL) (size := 2) (w.heap.size + 2) (.tmp 17) (.tmp 19) 49 27 i1 (.agg #[vi 0, .slice none 0 0]) 32 Try.underlying49 HI1.out.1 HI1.out.2.1 HI1.out.2.2.1 HI1.out.2.2.2 rfl (by omega) (fun _ => rfl) suL_one rfl none 0 0 [] rfl HNO.out.own [u] (some ⟨w2.heap.size, 0, none⟩) 1 rfl HRW.out (by unfold maxLen; simp only [List.length_singleton]; omega) (by simp only [List.length_singleton]; omega) (by have := HS2.out; rw [World.size_alloc]; omega) fun B c3 w5 hown hgr hat => hK _ _ ?_); have HE := Lib.hid (And.intro (HNO.out.app (a := u.a) HSI.out (fun x hx ad had e => by cases e) hown hgr hat) (And.intro (HNO.out.new (w := w) (Nat.le_add_right _ _) H3.out.1 hgr) (And.intro (H3.out.2.1.grown hgr (fun e => by cases e)) (H3.out.2.2.grown hgr (fun e => by cases e))))); have HSZ : Hid (w.heap.size + 2 <= w5.heap.size) := Lib.hid (by have h1 := hgr.size; have h2 := HS2.out; rw [World.size_alloc] at h1; omega); clear hown hgr hat x0 x1 u0 u1; have x0 := HE.out.2.2.1.at 0 (v := .slice s.a s.cs.length s.c) rfl; rw [HSA.out] at x0; have x1 := HE.out.2.2.1.at 1 (v := vi s.least) rfl; have u0 := HE.out.2.2.2.at 0 (v := vi u.frm) rfl; have u1 := HE.out.2.2.2.at 1 (v := .slice u.a u.beds.length u.c) rfl))
    have HS0 : Hid (SfJ (w.heap.size + 2) u.a ((ownS s.cs.length s.sd.K k l).map (suN k)) [u] B c3 w5) := Lib.hid (by
     have h1 := HE.out.1
     rw [HOW.out]
     have h2 : ([] ++ [u].map suK : List (Int × List Int)) = [l].map (suN k) := by
      show [(u.frm, u.beds)] = [((k : Int), l.map fun x : Nat => (x : Int))]
      rw [HP0.out.1, HP0.out.2.1]
     rw [h2] at h1
     exact h1)
    go_loopw [5, 6] (fun s5 s6 wr => ∃ (i : Nat) (us : List Su) (A : Option Addr) (c : Nat), i <= n /\ s5 = .slice A us.length c /\ s6 = vi i /\ SfJ (w.heap.size + 2) u.a ((partS s.sd.n s.cs.length s.sd.K k q l i).map (suN k)) us A c wr /\ newer w wr /\ Whole wr w.heap.size 24 (smC s) /\ Whole wr (w.heap.size + 1) 27 (suC u) /\ w.heap.size + 2 <= wr.heap.size) (fun _ s6 _ => n - (intOf s6).toNat)
    case atStart => exact ⟨0, [u], B, c3, Nat.zero_le _, rfl, rfl, HS0.out, HE.out.2.1, HE.out.2.2.1, HE.out.2.2.2, HSZ.out⟩
    case round =>
     obtain ⟨i, us, A, c, hi, rfl, rfl, hj, q2, q3, q4, q5⟩ := hrel
     clear x0 x1 u0 u1 H0 HS0
     have HJ := Lib.hid hj
     have HQ := Lib.hid (And.intro hi (And.intro q2 (And.intro q3 q4)))
     have HN0 := Lib.hid q5
     have cy := keep_cell HCY.out q2
     have x0 := q3.at 0 (v := .slice s.a s.cs.length s.c) rfl
     rw [HSA.out] at x0
     have x1 := q3.at 1 (v := vi s.least) rfl
     have u0 := q4.at 0 (v := vi u.frm) rfl
     have u1 := q4.at 1 (v := .slice u.a u.beds.length u.c) rfl
     clear hj q2 q3 q4 q5
     by_cases hlt : i < n
     ·have hlti : (i : Int) < n := by omega
      obtain ⟨km, hkm0⟩ : ∃ km, km = u.beds.length - 1 := ⟨_, rfl⟩
      obtain ⟨ub, uo, eu, d0⟩ := row1k (HU.out.next HQ.out.2.1) (k := km) (by omega)
      have HEU := Lib.hid eu
      rw [eu] at u1
      have hkm : (km : Int) < u.beds.length := by omega
      have c51 : IntKind.i64.wrap ((u.beds.length : Int) - 1) = (km : Int) := by rw [IntWalk.i64_in _ (by have := HUL.out; omega)]; omega
      obtain ⟨p, hp⟩ : ∃ p, p = iAt u.beds km := ⟨_, rfl⟩
      rw [<- hp] at d0
      have hpl : iAt (l.map fun x : Nat => (x : Int)) (l.length - 1) = p := by rw [hp, HPL.out.2.1, hkm0, HUL2.out]
      have hpb : 0 <= p /\ p < n := by
       obtain ⟨y, hy, rfl⟩ := last_at hln hpl
       have h1 := way_lt l (l.length - 1) y HPL.out.2.2.1 (by rw [<- List.getLast?_eq_getElem?]; exact hy)
       rw [<- HPL.out.2.2.2.2.1] at h1
       omega
      have c54 : IntKind.i64.wrap ((i : Int) - p) = (i : Int) - p := IntWalk.i64_in _ (by omega)
      have hnl := near_last (b := i) hln hpl
      have HC := Lib.hid (fun W => in_any ((i : Int) - p) (-1) 1 W)
      clear eu hp hpl hpb hkm0
      cases hq : inB ((i : Int) - p) (-1) 1 with
      | false =>
       rw [hq] at HC hnl
       clear hq
       go_wp2_with fail
       refine (HC.out _).mono ?_
       rintro e w2 ⟨rfl, rfl⟩
       go_wp2_with fail
       refine ⟨⟨i + 1, us, A, c, by omega, rfl, rfl, ?_, HQ.out.2.1, HQ.out.2.2.1, HQ.out.2.2.2, HN0.out⟩, ?_⟩
       ·unfold partS
        rw [hnl, if_neg (by decide), List.append_nil]
        exact HJ.out
       ·simp [intOf]
        omega
      | true =>
       rw [hq] at HC hnl
       have hnr := hnl
       clear hq hnl
       go_wp2_with fail
       refine (HC.out _).mono ?_
       rintro e w2 ⟨rfl, rfl⟩
       clear HC
       have hni : partS.nearB l i = true := hnr
       have HIH : Hid (∀ (u2 : Su) (W : World), newer w W -> SuOk u2 W -> u2.frm = u.frm -> u2.beds = u.beds ++ [(i : Int)] -> Calls Try.prog 69 #[smV s, suV u2] W fun e w' => surfOut W.heap.size u2.a ((surfsR s.sd.n s.cs.length s.sd.K k q (l ++ [i])).map (suN k)) e w' /\ newer W w') := Lib.hid (fun u2 W hW hu2 hf2 hl2 => HI0.out.2 (l ++ [i]) u2 W (HI0.out.1.next hW) hu2 (by rw [hf2]; exact HPL.out.1) (by rw [hl2, HPL.out.2.1, List.map_append]; rfl) (way_snoc l i (by rw [<- HPL.out.2.2.2.2.1]; exact hlt) HPL.out.2.2.1 (near_iff.1 hni)) (by rw [List.length_append, List.length_singleton]; have := HPL.out.2.2.2.1; omega))
       obtain ⟨LL, hLL⟩ : ∃ LL, LL = (surfsR s.sd.n s.cs.length s.sd.K k q (l ++ [i])).map (suN k) := ⟨_, rfl⟩
       rw [<- hLL] at HIH
       have HLL := Lib.hid (And.intro hLL hni)
       clear hLL hni
       go_upto_region 11 with fail
       clear u1 x0
       have x0 := HQ.out.2.2.1.at 0 (v := .slice s.a s.cs.length s.c) rfl
       have u1 := HQ.out.2.2.2.at 1 (v := .slice u.a u.beds.length u.c) rfl
       have HST : Hid (∀ ii v W W', pickD [vIs (.slice A us.length c), vIs (smV s), vIs (.pointer (some ⟨w.heap.size + 1, 0, none⟩)), vIs (vi u.frm), vNilB wr.heap.size, vIs (.pointer (some ⟨w.heap.size + 1, 1, none⟩)), vIs (.slice u.a u.beds.length u.c), vCopyB wr.heap.size u.beds, vIs (vi (i : Int)), vOneB wr.heap.size (i : Int), vTwoB wr.heap.size u.beds (i : Int), vSub wr.heap.size u (i : Int), vSurfs wr.heap.size LL] ii v W -> newer W W' -> pickD [vIs (.slice A us.length c), vIs (smV s), vIs (.pointer (some ⟨w.heap.size + 1, 0, none⟩)), vIs (vi u.frm), vNilB wr.heap.size, vIs (.pointer (some ⟨w.heap.size + 1, 1, none⟩)), vIs (.slice u.a u.beds.length u.c), vCopyB wr.heap.size u.beds, vIs (vi (i : Int)), vOneB wr.heap.size (i : Int), vTwoB wr.heap.size u.beds (i : Int), vSub wr.heap.size u (i : Int), vSurfs wr.heap.size LL] ii v W') := Lib.hid (pickD_stable _ ⟨vIs_st, vIs_st, vIs_st, vIs_st, vNilB_st, vIs_st, vIs_st, vCopyB_st, vIs_st, vOneB_st, vTwoB_st, vSub_st, vSurfs_st, trivial⟩)
       refine wp_words (by kernel_rfl) (region_live 13 (by kernel_rfl) (by kernel_rfl) (fun W => Below wr.heap.size wr W) (relTwo wr.heap.size 10 10) [none, none, none, none, some 7, none, none, some 10, none, some 10, some 11, none, none] (pickD [vIs (.slice A us.length c), vIs (smV s), vIs (.pointer (some ⟨w.heap.size + 1, 0, none⟩)), vIs (vi u.frm), vNilB wr.heap.size, vIs (.pointer (some ⟨w.heap.size + 1, 1, none⟩)), vIs (.slice u.a u.beds.length u.c), vCopyB wr.heap.size u.beds, vIs (vi (i : Int)), vOneB wr.heap.size (i : Int), vTwoB wr.heap.size u.beds (i : Int), vSub wr.heap.size u (i : Int), vSurfs wr.heap.size LL]) ?_ (Below.refl _ wr).drew ?_ ?_)
       ·intro listed i j v W W' hi hj hui hlj hpi hcl hk hD hR
        by_cases h5 : i = 10
        ·subst h5
         obtain rfl | rfl | rfl | rfl | rfl | rfl | rfl | rfl | rfl | rfl | rfl | rfl | rfl | hj9 : j = 0 ∨ j = 1 ∨ j = 2 ∨ j = 3 ∨ j = 4 ∨ j = 5 ∨ j = 6 ∨ j = 7 ∨ j = 8 ∨ j = 9 ∨ j = 10 ∨ j = 11 ∨ j = 12 ∨ 13 <= j := by omega
         ·exact hD
         ·exact hD
         ·exact hD
         ·exact hD
         ·have h1 := (hk 7 (by kernel_rfl)).2
          rw [hpi 7 (by kernel_rfl)] at h1
          cases h1
         ·exact hD
         ·exact hD
         ·exact absurd rfl (hk 10 (by kernel_rfl)).1
         ·exact hD
         ·exact absurd rfl (hk 10 (by kernel_rfl)).1
         ·exact absurd rfl hj
         ·rw [show listed.getD 10 false = true from (hcl 11 10 (by omega) (by kernel_rfl) hlj)] at hui
          cases hui
         ·rw [show listed.getD 10 false = true from (hcl 11 10 (by omega) (by kernel_rfl) (hcl 12 11 (by omega) (by kernel_rfl) hlj))] at hui
          cases hui
         ·obtain ⟨m, rfl⟩ : ∃ m, j = m + 13 := ⟨j - 13, by omega⟩
          exact trivial
        ·have hrl : relTwo wr.heap.size 10 10 i = newer := by
          unfold relTwo
          rw [show (Nat.beq i 10 || Nat.beq i 10) = false by
           cases h1 : Nat.beq i 10
           ·rfl
           ·exact absurd (Nat.eq_of_beq_eq_true h1) h5]
         rw [hrl] at hR
         exact HST.out j v W W' hD hR
       ·refine ⟨?_, ?_, ?_, ?_, ?_, ?_, ?_, ?_, ?_, ?_, ?_, ?_, ?_, trivial⟩
        ·intro listed a W hun hG hO hp
         have h5 := hO.slot 5 (by kernel_rfl)
         refine wp_yields (v := .slice A us.length c) ?_ ⟨_, rfl, rfl, newer_refl _, hG⟩
         simp [slotOf] at h5
         simp [execOp, go_sem, h5]
        ·intro listed a W hun hG hO hp
         have h2 := hO.slot 2 (by kernel_rfl)
         have c0 := keep_cell x0 hG
         have c1 := keep_cell x1 hG
         refine wp_yields (v := smV s) ?_ ⟨_, rfl, rfl, newer_refl _, hG⟩
         simp [slotOf] at h2
         simp [execOp, go_sem, h2, c0, c1]
        ·intro listed a W hun hG hO hp
         have h3 := hO.slot 3 (by kernel_rfl)
         refine wp_yields (v := (.pointer (some ⟨w.heap.size + 1, 0, none⟩))) ?_ ⟨_, rfl, rfl, newer_refl _, hG⟩
         simp [slotOf] at h3
         simp [execOp, go_sem, h3]
        ·intro listed a W hun hG hO hp
         have h59 : slotOf a 59 = (.pointer (some ⟨w.heap.size + 1, 0, none⟩)) := hp.1
         have c0 := keep_cell u0 hG
         refine wp_yields (v := vi u.frm) ?_ ⟨_, rfl, rfl, newer_refl _, hG⟩
         simp [slotOf] at h59
         simp [execOp, go_sem, h59, c0]
        ·intro listed a W hun hG hO hp
         refine wp_makes (v := .slice (some ⟨W.heap.size, 0, none⟩) 0 0) (W' := W.alloc (.cells #[] 3)) ?_ ⟨_, rfl, ⟨_, rfl, hG.size, Whole.made _ _ _⟩, newer_allocH _ _, hG.alloc hG.size _⟩
         simp [execOp, go_sem]
        ·intro listed a W hun hG hO hp
         have h3 := hO.slot 3 (by kernel_rfl)
         refine wp_yields (v := (.pointer (some ⟨w.heap.size + 1, 1, none⟩))) ?_ ⟨_, rfl, rfl, newer_refl _, hG⟩
         simp [slotOf] at h3
         simp [execOp, go_sem, h3]
        ·intro listed a W hun hG hO hp
         have h62 : slotOf a 62 = (.pointer (some ⟨w.heap.size + 1, 1, none⟩)) := hp.1
         have c0 := keep_cell u1 hG
         refine wp_yields (v := .slice u.a u.beds.length u.c) ?_ ⟨_, rfl, rfl, newer_refl _, hG⟩
         simp [slotOf] at h62
         simp [execOp, go_sem, h62, c0]
        ·intro listed a W hun hG hO hp
         have h61 : listed.getD 7 false = false -> vNilB wr.heap.size (slotOf a 61) W := hp.1
         have h63 : slotOf a 63 = (.slice u.a u.beds.length u.c) := hp.2.1
         obtain ⟨nb, h61, hnb, hW⟩ := h61 hun
         obtain ⟨hi0, hz0, hz1, hz2⟩ := HI.out
         refine wp_append_owncopy (enc := intL) (size := 1) wr.heap.size (.tmp 61) (.tmp 63) 25 3 i0 (.int .i64 0) 8 Try.underlying25 hi0 hz0 hz1 hz2 rfl (by omega) (by omega) (fun _ => rfl) rfl nb ((eval_slot a 61).trans h61) hnb hW u.beds u.a u.c ((eval_slot a 63).trans h63) HUL.out (HU.out.next (newer_trans HQ.out.2.1 hG)) hG.size ?_
         intro B c w1 ho hb _
         exact ⟨_, rfl, ⟨B, c, rfl, ho⟩, hb, below_next hG hb⟩
        ·intro listed a W hun hG hO hp
         have h6 := hO.slot 6 (by kernel_rfl)
         refine wp_yields (v := vi (i : Int)) ?_ ⟨_, rfl, rfl, newer_refl _, hG⟩
         simp [slotOf] at h6
         simp [execOp, go_sem, h6]
        ·intro listed a W hun hG hO hp
         have h65 : slotOf a 65 = (vi (i : Int)) := hp.1
         refine wp_makes (v := .slice (some ⟨W.heap.size, 0, none⟩) 1 1) (W' := W.alloc (.cells #[vi (i : Int)] 3)) ?_ ⟨_, rfl, ⟨_, rfl, hG.size, Whole.made _ _ _⟩, newer_allocH _ _, hG.alloc hG.size _⟩
         simp [slotOf] at h65
         simp [execOp, go_sem, h65]
        ·intro listed a W hun hG hO hp
         have h64 : listed.getD 10 false = false -> vCopyB wr.heap.size u.beds (slotOf a 64) W := hp.1
         have h66 : listed.getD 10 false = false -> vOneB wr.heap.size (i : Int) (slotOf a 66) W := hp.2.1
         obtain ⟨B, c, h64, ho⟩ := h64 hun
         obtain ⟨nb, h66, hnb, hW⟩ := h66 hun
         obtain ⟨hi0, hz0, hz1, hz2⟩ := HI.out
         have hl8 := HUL.out
         refine wp_append_one (.tmp 64) (.tmp 66) 25 rfl wr.heap.size 3 i0 (.int .i64 0) 8 Try.underlying25 hi0 hz0 hz1 hz2 rfl B u.beds.length c (u.beds.flatMap intL) ((eval_slot a 64).trans h64) ho ⟨nb, 0, none⟩ 1 (vi (i : Int)) ((eval_slot a 66).trans h66) (hW.at 0 rfl) rfl (by unfold maxLen; omega) (by omega) hG.size ?_
         intro g c' w1 hown hon
         have hB : Below wr.heap.size W w1 := by
          rcases hon with ⟨-, -, hg⟩ | ⟨-, hg⟩
          ·exact below_of_grown hg (own_ge_slice hown) hG.size
          ·exact below_of_grown (hg.but (some g)) (own_ge_slice hown) hG.size
         exact ⟨_, rfl, ⟨g, c', rfl, by rw [flatB_snoc]; exact hown⟩, hB, hG.trans hB⟩
        ·intro listed a W hun hG hO hp
         have h60 : slotOf a 60 = (vi u.frm) := hp.1
         have h67 : listed.getD 11 false = false -> vTwoB wr.heap.size u.beds (i : Int) (slotOf a 67) W := hp.2.1
         obtain ⟨g, c, h67, ho⟩ := h67 hun
         have hge := own_ge_slice ho
         have hok := row_of_own (enc := intL) (size := 1) (by omega) (fun _ => rfl) ho
         refine wp_yields (v := suV ⟨u.frm, u.beds ++ [(i : Int)], some ⟨g, 0, none⟩, c⟩) ?_ ⟨_, rfl, ⟨⟨u.frm, u.beds ++ [(i : Int)], some ⟨g, 0, none⟩, c⟩, rfl, rfl, rfl, hok, fun ad had => by injection had with had; rw [<- had]; exact hge⟩, newer_refl _, hG⟩
         simp [slotOf] at h60 h67
         simp [execOp, go_sem, h60, h67]
        ·intro listed a W hun hG hO hp
         have h58 : slotOf a 58 = (smV s) := hp.1
         have h68 : vSub wr.heap.size u (i : Int) (slotOf a 68) W := hp.2.1
         obtain ⟨u2, h68, hf2, hl2, hu2, hge2⟩ := h68
         refine wp_enters (f := 69) (args := #[smV s, suV u2]) ?_ ((HIH.out u2 W (newer_trans HQ.out.2.1 hG) hu2 hf2 hl2).mono ?_)
         ·simp [slotOf] at h58 h68
          simp [go_sem, h58, h68]
         ·rintro e w' ⟨⟨vs, A2, c2, rfl, hrv, hvi, hve⟩, hb⟩
          exact ⟨_, rfl, _, rfl, ⟨vs, A2, c2, rfl, hrv, hvi.high hG.size hge2, hve⟩, hb, below_next hG hb⟩
       ·intro wz hG
        rintro _ rfl _ rfl _ rfl _ rfl _ - _ rfl _ rfl _ - _ rfl _ - _ - _ - _ ⟨vs, A2, c2, rfl, hrv, hvi, hve⟩
        change wpList _ _ _ _ _ _
        simp only [Act.put, List.setIfInBounds_toArray, List.set_cons_zero, List.set_cons_succ, List.drop_succ_cons, List.drop_zero]
        have HR2 := Lib.hid (And.intro hrv (And.intro hvi hve))
        have HJ2 := Lib.hid (And.intro (HJ.out.next hG) (And.intro (newer_trans HQ.out.2.1 hG) (And.intro (HQ.out.2.2.1.below hG HQ.out.2.2.1.lt) (And.intro (HQ.out.2.2.2.below hG HQ.out.2.2.2.lt) hG))))
        have hfb : us.length + vs.length <= 13060694017 := by
         have h1 := part_few (cols := s.cs.length) (K := s.sd.K) (k := k) (r := q) (n := s.sd.n) HPL.out.2.2.2.2.2.1 HPL.out.2.2.2.2.2.2 (l := l) (i := i) (by have := HPL.out.2.2.2.2.2.1; rw [<- HPL.out.2.2.2.2.1] at this; omega)
         have h2 := surfs_few12 (cols := s.cs.length) (K := s.sd.K) (k := k) (r := q) (n := s.sd.n) HPL.out.2.2.2.2.2.1 HPL.out.2.2.2.2.2.2 (l ++ [i])
         have h3 : us.length = (partS s.sd.n s.cs.length s.sd.K k q l i).length := by have := congrArg List.length HJ.out.eq; simpa using this
         have h4 : vs.length = (surfsR s.sd.n s.cs.length s.sd.K k q (l ++ [i])).length := by have := congrArg List.length (HR2.out.2.2.trans HLL.out.1); simpa using this
         omega
        have HFB := Lib.hid hfb
        have hfar : ∀ x ∈ vs, ∀ ad, x.a = some ad -> (Value.slice A us.length c).ownBlock ≠ some ad.block := fun x hx ad had e => by
         have h1 := own_lt HJ.out.own _ e
         rcases HR2.out.2.1.hi x hx ad had with h2 | h2
         ·omega
         ·rw [had] at h2
          cases h2
        have HFR := Lib.hid hfar
        clear hrv hvi hve hG HJ HQ HIH HST hfb hfar x0 x1 u0 u1
        skip
        go_wp2_with (at_builtin; go_loud ((refine wpList_plain rfl fun _ hK => wp_append_all (enc := suL) (size := 2) (w.heap.size + 2) (.tmp 57) (.tmp 69) 49 27 i1 (.agg #[vi 0, .slice none 0 0]) 32 Try.underlying49 HI1.out.1 HI1.out.2.1 HI1.out.2.2.1 HI1.out.2.2.2 rfl (by omega) (fun _ => rfl) suL_one rfl A us.length c (us.flatMap suL) rfl HJ2.out.1.own vs A2 c2 rfl HR2.out.1 (by have := HFB.out; unfold maxLen; omega) (by have := HFB.out; omega) (by have := HN0.out; have := HJ2.out.2.2.2.2.size; omega) fun B c3 w5 hown hgr hat => hK _ _ ?_); have HE := Lib.hid (And.intro (HJ2.out.1.app (a := u.a) ⟨HR2.out.2.1.ok, HR2.out.2.1.ne, fun x hx ad had => .inl (by rcases HR2.out.2.1.hi x hx ad had with h2 | h2; (have := HN0.out; omega); (rw [had] at h2; cases h2))⟩ HFR.out hown hgr hat) (And.intro (HJ2.out.1.new (w := w) (Nat.le_add_right _ _) HJ2.out.2.1 hgr) (And.intro (HJ2.out.2.2.1.grown hgr (fun e => own_ne HJ2.out.1.own HJ2.out.2.2.1 (by decide) e.symm)) (HJ2.out.2.2.2.1.grown hgr (fun e => by have := own_ge HJ2.out.1.own _ e.symm; omega))))); have HSZ := Lib.hid hgr.size; clear hown hgr hat))
        refine ⟨⟨i + 1, us ++ vs, B, c3, by omega, by rw [List.length_append], rfl, ?_, HE.out.2.1, HE.out.2.2.1, HE.out.2.2.2, by have := HN0.out; have := HJ2.out.2.2.2.2.size; have := HSZ.out; omega⟩, ?_⟩
        ·have h1 := HE.out.1
         rw [HR2.out.2.2, HLL.out.1, <- List.map_append] at h1
         unfold partS
         rw [if_pos HLL.out.2]
         exact h1
        ·simp [intOf]
         omega
     ·obtain rfl : i = n := by omega
      have HZ := HJ.out.out (H := w.heap.size) (Nat.le_add_right _ _)
      go_wp2_with fail
      go_ret
      rw [HPL.out.2.2.2.2.1, part_all] at HZ
      exact ⟨HZ, HQ.out.2.1⟩
theorem surfs_any (s : Sm) (hs : SdOk s.sd) (k : Nat) : ∀ r, SurfsAt s k r
 | 0 => surfs_step s hs k 0 (fun q h => by omega)
 | r + 1 => surfs_step s hs k (r + 1) (fun q h => by
  obtain rfl : r = q := by omega
  exact surfs_any s hs k r)
end

section
open Go.RowKit Go.Shelf Go.Deep
def allTo (n cols K i : Nat) : List (Nat × List Nat) := (List.range i).flatMap fun k => (surfsR n cols K k (cols - k) []).map fun l => (k, l)
def suP (u : Nat × List Nat) : Int × List Int := suN u.1 u.2
theorem allTo_succ (n cols K i : Nat) : allTo n cols K (i + 1) = allTo n cols K i ++ (surfsR n cols K i (cols - i) []).map fun l => (i, l) := by
 unfold allTo
 rw [List.range_succ, List.flatMap_append]
 simp
theorem allTo_few {n cols K i : Nat} (hn : n <= 5) (hc : cols <= 12) (hi : i <= 12) : (allTo n cols K i).length <= 26121388032 := by
 have h := flat_few (m := 2176782336) (fun k => (surfsR n cols K k (cols - k) []).map fun l => (k, l)) (fun k => by
  rw [List.length_map]
  exact surfs_few12 hn (by omega) []) i
 have h2 : i * 2176782336 <= 12 * 2176782336 := Nat.mul_le_mul_right _ hi
 unfold allTo
 omega
set_option maxRecDepth 100000 in
set_option maxHeartbeats 1000000 in
theorem all_any (s : Sm) (w : World) (hok : SmOk s w) (hs : SdOk s.sd) : Calls Try.prog 28 #[smV s] w fun e w' => surfOut w.heap.size none ((allR s.sd.n s.cs.length s.sd.K).map suP) e w' /\ newer w w' := by
 have hcl : s.cs.length <= 12 /\ 1 <= s.cs.length := by have h1 := hs.cols; rw [sd_len] at h1; omega
 have hnw : newer w (w.alloc (.cells (smC s) 24)) := newer_allocH _ _
 have hxb := Whole.made w 24 (smC s)
 have H0 := Lib.hid (And.intro hnw hxb)
 have x0 := hxb.at 0 (v := .slice s.a s.cs.length s.c) rfl
 have x1 := hxb.at 1 (v := vi s.least) rfl
 obtain ⟨i1, hi1, hy1, hy2, hy3⟩ := info_parts info_su
 have HI1 := Lib.hid (And.intro hi1 (And.intro hy1 (And.intro hy2 hy3)))
 have HOK := Lib.hid hok
 have HNB := Lib.hid hs.beds
 have HSD := Lib.hid hs
 clear hok hs hnw hxb hi1 hy1 hy2 hy3
 go_enter Try.func28, Try.ntmps28
 go_wp2_with fail
 go_loopw [3, 4] (fun s3 s4 wr => ∃ (k : Nat) (us : List Su) (A : Option Addr) (c : Nat), k <= s.cs.length /\ s3 = .slice A us.length c /\ s4 = vi k /\ SfJ (w.heap.size + 1) none ((allTo s.sd.n s.cs.length s.sd.K k).map suP) us A c wr /\ newer w wr /\ Whole wr w.heap.size 24 (smC s) /\ w.heap.size + 1 <= wr.heap.size) (fun _ s4 _ => s.cs.length - (intOf s4).toNat)
 case atStart => exact ⟨0, [], none, 0, Nat.zero_le _, rfl, rfl, SfJ.none _ _ _, H0.out.1, H0.out.2, by simp [World.size_alloc]⟩
 case round =>
  obtain ⟨k, us, A, c, hk, rfl, rfl, hj, q2, q3, q5⟩ := hrel
  clear x0 x1 H0
  have HJ := Lib.hid hj
  have HQ := Lib.hid (And.intro hk (And.intro q2 q3))
  have HN0 := Lib.hid q5
  have x0 := q3.at 0 (v := .slice s.a s.cs.length s.c) rfl
  have x1 := q3.at 1 (v := vi s.least) rfl
  obtain ⟨wo, rfl⟩ : ∃ wo : World, wo = wr := ⟨_, rfl⟩
  clear hj q2 q3 q5
  by_cases hlt : k < s.cs.length
  ·have hlti : (k : Int) < s.cs.length := by omega
   obtain ⟨LL, hLL⟩ : ∃ LL, LL = (surfsR s.sd.n s.cs.length s.sd.K k (s.cs.length - k) []).map (suN k) := ⟨_, rfl⟩
   have HC : Hid (Calls Try.prog 69 #[smV s, .agg #[vi k, .slice none 0 0]] wo fun e w' => surfOut wo.heap.size none LL e w' /\ newer wo w') := Lib.hid (by
    have h := surfs_any s HSD.out k (s.cs.length - k) [] ⟨k, [], none, 0⟩ wo (HOK.out.next HQ.out.2.1) (fun h => (h rfl).elim) rfl rfl trivial (by simp; omega)
    rw [<- hLL] at h
    exact h)
   have HLL := Lib.hid hLL
   clear hLL
   go_wp2_with fail
   refine (HC.out).mono ?_
   rintro e w3 ⟨⟨vs, A2, c2, rfl, hrv, hvi, hve⟩, hb⟩
   have HR2 := Lib.hid (And.intro hrv (And.intro hvi hve))
   have HJ2 := Lib.hid (And.intro (HJ.out.next hb) (And.intro (newer_trans HQ.out.2.1 hb) (And.intro (HQ.out.2.2.below hb HQ.out.2.2.lt) hb.size)))
   have hfb : us.length + vs.length <= 28298170368 := by
    have h1 := allTo_few (cols := s.cs.length) (K := s.sd.K) (n := s.sd.n) (i := k) HNB.out.2 hcl.1 (by omega)
    have h2 := surfs_few12 (cols := s.cs.length) (K := s.sd.K) (k := k) (r := s.cs.length - k) (n := s.sd.n) HNB.out.2 (by omega) []
    have h3 : us.length = (allTo s.sd.n s.cs.length s.sd.K k).length := by have := congrArg List.length HJ.out.eq; simpa using this
    have h4 : vs.length = (surfsR s.sd.n s.cs.length s.sd.K k (s.cs.length - k) []).length := by have := congrArg List.length (HR2.out.2.2.trans HLL.out); simpa using this
    omega
   have HFB := Lib.hid hfb
   have hfar : ∀ x ∈ vs, ∀ ad, x.a = some ad -> (Value.slice A us.length c).ownBlock ≠ some ad.block := fun x hx ad had e => by
    have h1 := own_lt HJ.out.own _ e
    rcases HR2.out.2.1.hi x hx ad had with h2 | h2
    ·omega
    ·rw [had] at h2
     cases h2
   have HFR := Lib.hid hfar
   have HSI : Hid (SfIn (w.heap.size + 1) none vs w3) := Lib.hid (HR2.out.2.1.high HN0.out (fun ad h => by cases h))
   clear hrv hvi hve hb HJ HQ HC hfb hfar x0 x1
   go_wp2_with (at_builtin; go_loud ((refine wpList_plain rfl fun _ hK => wp_append_all (enc := suL) (size := 2) (w.heap.size + 1) (.tmp 12) (.tmp 16) 49 27 i1 (.agg #[vi 0, .slice none 0 0]) 32 Try.underlying49 HI1.out.1 HI1.out.2.1 HI1.out.2.2.1 HI1.out.2.2.2 rfl (by omega) (fun _ => rfl) suL_one rfl A us.length c (us.flatMap suL) rfl HJ2.out.1.own vs A2 c2 rfl HR2.out.1 (by have := HFB.out; unfold maxLen; omega) (by have := HFB.out; omega) (by have := HN0.out; have := HJ2.out.2.2.2; omega) fun B c3 w5 hown hgr hat => hK _ _ ?_); have HE := Lib.hid (And.intro (HJ2.out.1.app (a := none) HSI.out HFR.out hown hgr hat) (And.intro (HJ2.out.1.new (w := w) (Nat.le_add_right _ _) HJ2.out.2.1 hgr) (HJ2.out.2.2.1.grown hgr (fun e => by have := own_ge HJ2.out.1.own _ e.symm; omega)))); have HSZ := Lib.hid hgr.size; clear hown hgr hat))
   refine ⟨⟨k + 1, us ++ vs, B, c3, by omega, by rw [List.length_append], rfl, ?_, HE.out.2.1, HE.out.2.2, by have := HN0.out; have := HJ2.out.2.2.2; have := HSZ.out; omega⟩, ?_⟩
   ·have h1 := HE.out.1
    rw [HR2.out.2.2, HLL.out] at h1
    rw [allTo_succ, List.map_append, List.map_map]
    exact h1
   ·simp [intOf]
    omega
  ·obtain rfl : k = s.cs.length := by omega
   have HZ := HJ.out.out (H := w.heap.size) (Nat.le_add_right _ _)
   go_wp2_with fail
   go_ret
   exact ⟨HZ, HQ.out.2.1⟩
end

section
open Go.RowKit Go.Shelf Go.Deep
theorem hK_cons (x : Bd) (bs : List Bd) (tr : Nat -> Rl) : ∀ m, hK (x :: bs) tr (m + 1) = holdsN x (tr 0) + hK bs (fun i => tr (i + 1)) m
 | 0 => by simp [hK, List.getD]
 | m + 1 => by
  rw [hK, hK_cons x bs tr m]
  simp [hK, List.getD]
  omega
theorem dK_cons (x : Bd) (bs : List Bd) : ∀ m, dK (x :: bs) (m + 1) = x.drive + dK bs m
 | 0 => by simp [dK, List.getD]
 | m + 1 => by
  rw [dK, dK_cons x bs m]
  simp [dK, List.getD]
  omega
theorem hK_sum (s : Sd) (hi : Bool) : ∀ (l : List Nat) (k : Nat), hK (bedsL s.cols k l) (fun i => endR hi ((bedsL s.cols k l).getD i zeroBd)) l.length = sumH (hAt hi s) k l
 | [], _ => rfl
 | b :: t, k => by
  show hK (bdAt s.cols k b :: bedsL s.cols (k + 1) t) (fun i => endR hi ((bdAt s.cols k b :: bedsL s.cols (k + 1) t).getD i zeroBd)) (t.length + 1) = hAt hi s k b + sumH (hAt hi s) (k + 1) t
  rw [hK_cons]
  have ih := hK_sum s hi t (k + 1)
  have e : holdsN (bdAt s.cols k b) (endR hi (bdAt s.cols k b)) = hAt hi s k b := by
   unfold bdAt hAt
   cases bedAt s.cols k b with
   | none => cases hi <;> decide
   | some x => rfl
  simp only [List.getD_cons_zero, List.getD_cons_succ]
  rw [ih, e]
theorem dK_sum (s : Sd) : ∀ (l : List Nat) (k : Nat), dK (bedsL s.cols k l) l.length = sumH (dAt s) k l
 | [], _ => rfl
 | b :: t, k => by
  show dK (bdAt s.cols k b :: bedsL s.cols (k + 1) t) (t.length + 1) = dAt s k b + sumH (dAt s) (k + 1) t
  rw [dK_cons, dK_sum s t (k + 1)]
  have e : (bdAt s.cols k b).drive = dAt s k b := by
   unfold bdAt dAt
   cases bedAt s.cols k b with
   | none => rfl
   | some x => rfl
  rw [e]
theorem refE_sum (s : Sd) (hi : Bool) (k : Nat) (l : List Nat) : refE (bedsL s.cols k l) hi = refF (sumH (hAt hi s) k l) (sumH (dAt s) k l) := by
 unfold refE refF facE
 rw [bedsL_len, hK_sum, dK_sum]
end

section
open Go.RowKit Go.Shelf Go.Deep
def refLo (s : Sd) (u : Nat × List Nat) : Int := refE (bedsL s.cols u.1 u.2) false
theorem lowest_lo (s : Sd) (l : List (Nat × List Nat)) (b : Int) : lowestK (refLo s) l b = lowestK (fun u => refF (sumH (hT (some false) s) u.1 u.2) (sumH (dAt s) u.1 u.2)) l b := by
 have e : refLo s = fun u => refF (sumH (hT (some false) s) u.1 u.2) (sumH (dAt s) u.1 u.2) := funext fun u => refE_sum s false u.1 u.2
 rw [e]
theorem lowest_step {f : Nat × List Nat -> Int} {all : List (Nat × List Nat)} {i : Nat} {u : Nat × List Nat} (h : all[i]? = some u) (b : Int) : lowestK f (all.drop i) b = lowestK f (all.drop (i + 1)) (if 0 <= f u /\ (b < 0 ∨ f u < b) then f u else b) := by
 have hi := (List.getElem?_eq_some_iff.1 h).1
 rw [List.drop_eq_getElem_cons hi, show all[i] = u from (List.getElem?_eq_some_iff.1 h).2]
 rfl
theorem row_su2 {w : World} {B : Nat} {A : Option Addr} {l : List Su} (h : Row suL 2 w B A l) {k : Nat} {x : Su} (hk : l[k]? = some x) : ∃ b off, A = some ⟨b, off, none⟩ /\ b < B /\ w.cell? ⟨b, off + k * 2, none⟩ = some (vi x.frm) /\ w.cell? ⟨b, off + k * 2 + 1, none⟩ = some (.slice x.a x.beds.length x.c) := by
 obtain ⟨b, off, e, hb, hc⟩ := h (ne_nil_of_get hk)
 exact ⟨b, off, e, hb, hc k x hk 0 _ rfl, hc k x hk 1 _ rfl⟩
set_option maxRecDepth 100000 in
set_option maxHeartbeats 1000000 in
theorem lowest_any (s : Sm) (us : List Su) (A : Option Addr) (c : Nat) (all : List (Nat × List Nat)) (w : World) (hok : SmOk s w) (hs : SdOk s.sd) (hr : Row suL 2 w w.heap.size A us) (hsi : ∀ x ∈ us, SuOk x w) (he : us.map suK = all.map suP) (hsb : ∀ u ∈ all, SurfB s.sd.n s.cs.length s.sd.K u.1 u.2) (hlen : us.length <= 28298170368) :
  Calls Try.prog 27 #[smV s, .slice A us.length c] w fun e w' => e = .returned (vi (lowestK (refLo s.sd) all (-1))) /\ newer w w' := by
 have hal : all.length = us.length := by have := congrArg List.length he; simpa using this.symm
 have hnw : newer w (w.alloc (.cells (smC s) 24)) := newer_allocH _ _
 have hxb := Whole.made w 24 (smC s)
 have H0 := Lib.hid (And.intro hnw hxb)
 have x0 := hxb.at 0 (v := .slice s.a s.cs.length s.c) rfl
 have x1 := hxb.at 1 (v := vi s.least) rfl
 have HOK := Lib.hid (And.intro hok (And.intro hr hsi))
 have HP := Lib.hid (And.intro hs (And.intro he hsb))
 have HAL := Lib.hid hal
 obtain ⟨Z, hZ⟩ : ∃ Z, Z = lowestK (refLo s.sd) all (-1) := ⟨_, rfl⟩
 rw [<- hZ]
 have HZZ := Lib.hid hZ
 clear hok hr hsi hs he hsb hal hnw hxb hZ
 go_enter Try.func27, Try.ntmps27
 go_wp2_with fail
 go_loopw [5, 6] (fun s5 s6 wr => ∃ (i : Nat) (b : Int), i <= us.length /\ s5 = vi b /\ s6 = vi i /\ Z = lowestK (refLo s.sd) (all.drop i) b /\ newer w wr /\ Whole wr w.heap.size 24 (smC s)) (fun _ s6 _ => us.length - (intOf s6).toNat)
 case atStart => exact ⟨0, -1, Nat.zero_le _, rfl, rfl, HZZ.out, H0.out.1, H0.out.2⟩
 case round =>
  obtain ⟨i, b, hi, rfl, rfl, q1, q2, q3⟩ := hrel
  clear x0 x1 H0
  by_cases hlt : i < us.length
  ·have hki : (i : Int) < us.length := by omega
   obtain ⟨x, hx⟩ := get_of_lt hlt
   obtain ⟨u, hu⟩ := get_of_lt (l := all) (k := i) (by rw [HAL.out]; exact hlt)
   have hxu : suK x = suP u := by
    have h1 := congrArg (fun l => l[i]?) HP.out.2.1
    simpa [hx, hu] using h1
   obtain ⟨hf, hl⟩ : x.frm = (u.1 : Int) /\ x.beds = u.2.map fun y : Nat => (y : Int) := by simpa [suK, suP, suN] using hxu
   obtain ⟨ab, ao, eA, _, d0, d1⟩ := row_su2 ((HOK.out.2.1.below q2).more q2.size) hx
   obtain ⟨g0, hg0⟩ : ∃ g, g = refLo s.sd u := ⟨_, rfl⟩
   obtain ⟨g1, hg1⟩ : ∃ g, g = refE (bedsL s.sd.cols u.1 u.2) true := ⟨_, rfl⟩
   have HRS : Hid (∀ W, newer w W -> Calls Try.prog 22 #[smV s, suV x] W fun e w' => e = .returned (.agg #[vi g0, vi g1]) /\ newer W w') := Lib.hid (fun W hW => by
    rw [hg0, hg1]
    exact refSpan_any s x u.1 u.2 W (HOK.out.1.next hW) HP.out.1 ((HOK.out.2.2 x (List.mem_of_getElem? hx)).next hW) hf hl (HP.out.2.2 u (List.mem_of_getElem? hu)))
   have HST := Lib.hid (q1.trans (lowest_step (f := refLo s.sd) hu b))
   rw [<- hg0] at HST
   have HQ := Lib.hid (And.intro q1 (And.intro q2 q3))
   have x0 := q3.at 0 (v := .slice s.a s.cs.length s.c) rfl
   have x1 := q3.at 1 (v := vi s.least) rfl
   have HEA := Lib.hid eA
   subst eA
   clear q1 q2 q3 hx hu hxu hf hl hg0 hg1 HEA
   go_upto_region 5 with fail
   refine wp_words (by kernel_rfl) (region_told 7 (by kernel_rfl) (by kernel_rfl) (fun W => Below wr.heap.size wr W) newer (pickD [vIs (smV s), vIs (.slice (some ⟨ab, ao, none⟩) us.length c), vIs (vi i), vIs (.pointer (some ⟨ab, ao + i * 2, none⟩)), vIs (suV x), vIs (.agg #[vi g0, vi g1]), vIs (vi g0)]) (fun h k => newer_trans h k) (pickD_stable _ ⟨vIs_st, vIs_st, vIs_st, vIs_st, vIs_st, vIs_st, vIs_st, trivial⟩) (Below.refl _ wr).drew (Below.refl _ _) ?_ ?_)
   ·refine ⟨?_, ?_, ?_, ?_, ?_, ?_, ?_, trivial⟩
    ·intro a W hG hR hO hp; have h2 := hO.slot 2 (by kernel_rfl); have c0 := keep_cell x0 hG; have c1 := keep_cell x1 hG; refine kY (v := smV s) hG rfl ?_; simp [slotOf] at h2; simp [execOp, go_sem, h2, c0, c1]
    ·exact fun a W hG _ hO _ => kM 1 rfl (hO.slot 1 (by kernel_rfl)) rfl hG
    ·exact fun a W hG _ hO _ => kM 6 rfl (hO.slot 6 (by kernel_rfl)) rfl hG
    ·intro a W hG hR hO hp; have h15 : slotOf a 15 = .slice (some ⟨ab, ao, none⟩) us.length c := hp.1; have h16 : slotOf a 16 = vi i := hp.2.1; refine kY (v := .pointer (some ⟨ab, ao + i * 2, none⟩)) hG rfl ?_; simp [slotOf] at h15 h16; simp [execOp, go_sem, h15, h16, hki]
    ·intro a W hG hR hO hp; have h17 : slotOf a 17 = .pointer (some ⟨ab, ao + i * 2, none⟩) := hp.1; have c0 := keep_cell d0 hG; have c1 := keep_cell d1 hG; refine kY (v := suV x) hG rfl ?_; simp [slotOf] at h17; simp [execOp, go_sem, h17, c0, c1]
    ·intro a W hG hR hO hp
     have h14 : slotOf a 14 = smV s := hp.1
     have h18 : slotOf a 18 = suV x := hp.2.1
     refine wp_enters (f := 22) (args := #[smV s, suV x]) ?_ ((HRS.out W (newer_trans HQ.out.2.1 hG)).mono ?_)
     ·simp [slotOf] at h14 h18
      simp [go_sem, h14, h18]
     ·rintro e w' ⟨rfl, hb⟩
      exact ⟨_, rfl, _, rfl, rfl, hb, below_next hG hb⟩
    ·intro a W hG hR hO hp; have h19 : slotOf a 19 = .agg #[vi g0, vi g1] := hp.1; refine kY (v := vi g0) hG rfl ?_; simp [slotOf] at h19; simp [execOp, go_sem, h19]
   ·intro wz hG hR
    rintro _ rfl _ rfl _ rfl _ rfl _ rfl _ rfl _ rfl
    change wpList _ _ _ _ _ _
    simp only [Act.put, List.setIfInBounds_toArray, List.set_cons_zero, List.set_cons_succ, List.drop_succ_cons, List.drop_zero]
    have HZ := Lib.hid (And.intro (newer_trans HQ.out.2.1 hG) (HQ.out.2.2.below hG HQ.out.2.2.lt))
    clear hG hR x0 x1 d0 d1 HQ HRS
    by_cases h1 : 0 <= g0
    ·by_cases h2 : b < 0
     ·have h3 : 0 <= g0 /\ (b < 0 ∨ g0 < b) := ⟨h1, .inl h2⟩
      have HC := Lib.hid h3
      clear h3
      go_wp2_with fail
      refine ⟨⟨i + 1, g0, by omega, rfl, rfl, ?_, HZ.out.1, HZ.out.2⟩, ?_⟩
      ·have h1 := HST.out
       rw [if_pos HC.out] at h1
       exact h1
      ·simp [intOf]
       omega
     ·by_cases h3 : g0 < b
      ·have HC := Lib.hid (show 0 <= g0 /\ (b < 0 ∨ g0 < b) from ⟨h1, .inr h3⟩)
       go_wp2_with fail
       refine ⟨⟨i + 1, g0, by omega, rfl, rfl, ?_, HZ.out.1, HZ.out.2⟩, ?_⟩
       ·have h1 := HST.out
        rw [if_pos HC.out] at h1
        exact h1
       ·simp [intOf]
        omega
      ·have HC := Lib.hid (show ¬ (0 <= g0 /\ (b < 0 ∨ g0 < b)) from fun h => by omega)
       go_wp2_with fail
       refine ⟨⟨i + 1, b, by omega, rfl, rfl, ?_, HZ.out.1, HZ.out.2⟩, ?_⟩
       ·have h1 := HST.out
        rw [if_neg HC.out] at h1
        exact h1
       ·simp [intOf]
        omega
    ·have HC := Lib.hid (show ¬ (0 <= g0 /\ (b < 0 ∨ g0 < b)) from fun h => h1 h.1)
     go_wp2_with fail
     refine ⟨⟨i + 1, b, by omega, rfl, rfl, ?_, HZ.out.1, HZ.out.2⟩, ?_⟩
     ·have h1 := HST.out
      rw [if_neg HC.out] at h1
      exact h1
     ·simp [intOf]
      omega
  ·obtain rfl : i = us.length := by omega
   have HE := Lib.hid (And.intro q1 q2)
   clear q1 q2 q3
   go_wp2_with fail
   go_ret
   refine ⟨?_, HE.out.2⟩
   rw [HE.out.1, <- HAL.out, List.drop_length]
   rfl
end

section
open Go.RowKit Go.Shelf Go.Deep
def fewB (s : Sd) : Bool := if thinS s && slopeB s then (decide ((s.cols.length : Int) <= 6) && decide ((s.n : Int) <= 3)) || decide ((s.cols.length : Int) <= 4) else thinS s
set_option maxRecDepth 100000 in
set_option maxHeartbeats 1000000 in
theorem few_any (s : Sm) (w : World) (hok : SmOk s w) : Calls Try.prog 24 #[smV s] w fun e w' => e = .returned (.bool (fewB s.sd)) /\ newer w w' := by
 have H0 := Lib.hid (And.intro (newer_allocH w (.cells (smC s) 24)) (Whole.made w 24 (smC s)))
 have HOK := Lib.hid hok
 have HTH : Hid (∀ W, newer w W -> Calls Try.prog 16 #[smV s] W fun e w' => e = .returned (.bool (thinS s.sd)) /\ newer W w') := Lib.hid (fun W hW => lawThin s W (HOK.out.next hW))
 have x0 := H0.out.2.at 0 (v := .slice s.a s.cs.length s.c) rfl
 have x1 := H0.out.2.at 1 (v := vi s.least) rfl
 unfold fewB
 cases ht : thinS s.sd with
 | false =>
  rw [ht] at HTH
  clear ht hok
  go_enter Try.func24, Try.ntmps24
  go_wp2_with fail
  refine (HTH.out _ H0.out.1).mono ?_
  rintro e w2 ⟨rfl, hb⟩
  have H2 := Lib.hid (And.intro (newer_trans H0.out.1 hb) (H0.out.2.below hb H0.out.2.lt))
  clear x0 x1 hb H0
  have x0 := H2.out.2.at 0 (v := .slice s.a s.cs.length s.c) rfl
  have x1 := H2.out.2.at 1 (v := vi s.least) rfl
  go_wp2_with fail
  refine (HTH.out _ H2.out.1).mono ?_
  rintro e w3 ⟨rfl, hb⟩
  have H3 := Lib.hid (newer_trans H2.out.1 hb)
  clear x0 x1 hb H2
  go_wp2_with fail
  go_ret
  exact ⟨rfl, H3.out⟩
 | true =>
  obtain ⟨few, hc15, hb8⟩ := thinS_few ht
  have HRI : Hid (∀ W, newer w W -> Calls Try.prog 26 #[smV s] W fun e w' => e = .returned (.bool (slopeB s.sd)) /\ newer W w') := Lib.hid (fun W hW => right_any s W (HOK.out.next hW) few)
  rw [ht] at HTH
  cases hr : slopeB s.sd with
  | false =>
   rw [hr] at HRI
   clear ht hok few hc15 hb8 hr
   go_enter Try.func24, Try.ntmps24
   go_wp2_with fail
   refine (HTH.out _ H0.out.1).mono ?_
   rintro e w2 ⟨rfl, hb⟩
   have H2 := Lib.hid (And.intro (newer_trans H0.out.1 hb) (H0.out.2.below hb H0.out.2.lt))
   clear x0 x1 hb H0
   have x0 := H2.out.2.at 0 (v := .slice s.a s.cs.length s.c) rfl
   have x1 := H2.out.2.at 1 (v := vi s.least) rfl
   go_wp2_with fail
   refine (HRI.out _ H2.out.1).mono ?_
   rintro e w3 ⟨rfl, hb⟩
   have H3 := Lib.hid (And.intro (newer_trans H2.out.1 hb) (H2.out.2.below hb H2.out.2.lt))
   clear x0 x1 hb H2
   have x0 := H3.out.2.at 0 (v := .slice s.a s.cs.length s.c) rfl
   have x1 := H3.out.2.at 1 (v := vi s.least) rfl
   go_wp2_with fail
   refine (HTH.out _ H3.out.1).mono ?_
   rintro e w4 ⟨rfl, hb⟩
   have H4 := Lib.hid (newer_trans H3.out.1 hb)
   clear x0 x1 hb H3
   go_wp2_with fail
   go_ret
   exact ⟨rfl, H4.out⟩
  | true =>
   rw [hr] at HRI
   have hs := sdOk_iff.1 hr
   have hcl : s.cs.length <= 12 /\ 1 <= s.cs.length := by have h1 := hs.cols; rw [sd_len] at h1; omega
   obtain ⟨y0, hy0⟩ := get_of_lt (l := s.cs) (k := 0) (by omega)
   have hyn : y0.beds.length = s.sd.n := (sd_n hy0).symm
   obtain ⟨b1, o1, ea, _, cy⟩ := rowC hok.cs hy0
   simp only [Nat.add_zero] at cy
   obtain ⟨n, hn⟩ : ∃ n, n = s.sd.n := ⟨_, rfl⟩
   rw [hyn, <- hn] at cy
   rw [<- hn, sd_len]
   obtain ⟨r, hr2⟩ : ∃ r, r = (if (true && true) = true then decide ((s.cs.length : Int) <= 6) && decide ((n : Int) <= 3) || decide ((s.cs.length : Int) <= 4) else true) := ⟨_, rfl⟩
   rw [<- hr2]
   have HV := Lib.hid (show r = (decide ((s.cs.length : Int) <= 6) && decide ((n : Int) <= 3) || decide ((s.cs.length : Int) <= 4)) from hr2)
   clear hr2
   have HCY := Lib.hid cy
   have HSA := Lib.hid ea
   have hcne : ¬ (s.cs = []) := by intro h; rw [h] at hcl; simp at hcl
   clear ht hok few hc15 hb8 hr hs hy0 hyn ea hn cy
   go_enter Try.func24, Try.ntmps24
   go_wp2_with fail
   refine (HTH.out _ H0.out.1).mono ?_
   rintro e w2 ⟨rfl, hb⟩
   have H2 := Lib.hid (And.intro (newer_trans H0.out.1 hb) (H0.out.2.below hb H0.out.2.lt))
   clear x0 x1 hb H0
   have x0 := H2.out.2.at 0 (v := .slice s.a s.cs.length s.c) rfl
   have x1 := H2.out.2.at 1 (v := vi s.least) rfl
   go_wp2_with fail
   refine (HRI.out _ H2.out.1).mono ?_
   rintro e w3 ⟨rfl, hb⟩
   have H3 := Lib.hid (And.intro (newer_trans H2.out.1 hb) (H2.out.2.below hb H2.out.2.lt))
   clear x0 x1 hb H2
   have x0 := H3.out.2.at 0 (v := .slice s.a s.cs.length s.c) rfl
   rw [HSA.out] at x0
   have cy := keep_cell HCY.out H3.out.1
   go_upto_region 3 with fail
   refine wp_words (by kernel_rfl) (region_told 9 (by kernel_rfl) (by kernel_rfl) (fun W => Below w3.heap.size w3 W) newer (pickD [vIs (.pointer (some ⟨w.heap.size, 0, none⟩)), vIs (.slice (some ⟨b1, o1, none⟩) s.cs.length s.c), vIs (.int .i64 s.cs.length), vIs (.pointer (some ⟨w.heap.size, 0, none⟩)), vIs (.slice (some ⟨b1, o1, none⟩) s.cs.length s.c), vIs (.pointer (some ⟨b1, o1, none⟩)), vIs (.slice y0.a n y0.cp), vIs (.int .i64 n), vIs (.int .i64 s.cs.length)]) (fun h k => newer_trans h k) (pickD_stable _ ⟨vIs_st, vIs_st, vIs_st, vIs_st, vIs_st, vIs_st, vIs_st, vIs_st, vIs_st, trivial⟩) (Below.refl _ w3).drew (Below.refl _ _) ?_ ?_)
   ·refine ⟨?_, ?_, ?_, ?_, ?_, ?_, ?_, ?_, ?_, trivial⟩
    ·intro a W hG hR hO hp; have h1 := hO.slot 1 (by kernel_rfl); refine kY (v := .pointer (some ⟨w.heap.size, 0, none⟩)) hG rfl ?_; simp [slotOf] at h1; simp [execOp, go_sem, h1]
    ·intro a W hG hR hO hp; have h15 : slotOf a 15 = .pointer (some ⟨w.heap.size, 0, none⟩) := hp.1; have c0 := keep_cell x0 hG; refine kY (v := .slice (some ⟨b1, o1, none⟩) s.cs.length s.c) hG rfl ?_; simp [slotOf] at h15; simp [execOp, go_sem, h15, c0]
    ·intro a W hG hR hO hp; have h16 : slotOf a 16 = .slice (some ⟨b1, o1, none⟩) s.cs.length s.c := hp.1; refine kY (v := .int .i64 s.cs.length) hG rfl ?_; simp [slotOf] at h16; simp [go_sem, h16]
    ·intro a W hG hR hO hp; have h1 := hO.slot 1 (by kernel_rfl); refine kY (v := .pointer (some ⟨w.heap.size, 0, none⟩)) hG rfl ?_; simp [slotOf] at h1; simp [execOp, go_sem, h1]
    ·intro a W hG hR hO hp; have h18 : slotOf a 18 = .pointer (some ⟨w.heap.size, 0, none⟩) := hp.1; have c0 := keep_cell x0 hG; refine kY (v := .slice (some ⟨b1, o1, none⟩) s.cs.length s.c) hG rfl ?_; simp [slotOf] at h18; simp [execOp, go_sem, h18, c0]
    ·intro a W hG hR hO hp; have h19 : slotOf a 19 = .slice (some ⟨b1, o1, none⟩) s.cs.length s.c := hp.1; refine kY (v := .pointer (some ⟨b1, o1, none⟩)) hG rfl ?_; simp [slotOf] at h19; simp [execOp, go_sem, h19, hcne]
    ·intro a W hG hR hO hp; have h20 : slotOf a 20 = .pointer (some ⟨b1, o1, none⟩) := hp.1; have c0 := keep_cell cy hG; refine kY (v := .slice y0.a n y0.cp) hG rfl ?_; simp [slotOf] at h20; simp [execOp, go_sem, h20, c0]
    ·intro a W hG hR hO hp; have h21 : slotOf a 21 = .slice y0.a n y0.cp := hp.1; refine kY (v := .int .i64 n) hG rfl ?_; simp [slotOf] at h21; simp [go_sem, h21]
    ·intro a W hG hR hO hp; have h17 : slotOf a 17 = .int .i64 s.cs.length := hp.1; refine kY (v := .int .i64 s.cs.length) hG rfl ?_; simp [slotOf] at h17; simp [execOp, go_sem, h17]
   ·intro wz hG hR
    rintro _ rfl _ rfl _ rfl _ rfl _ rfl _ rfl _ rfl _ rfl _ rfl
    change wpList _ _ _ _ _ _
    simp only [Act.put, List.setIfInBounds_toArray, List.set_cons_zero, List.set_cons_succ, List.drop_succ_cons, List.drop_zero]
    have H4 := Lib.hid (newer_trans H3.out.1 hG)
    clear hG hR x0 cy H3
    by_cases h1 : (s.cs.length : Int) <= 6
    ·by_cases h2 : (n : Int) <= 3
     ·have HR := Lib.hid (show r = true by rw [HV.out, decide_eq_true h1, decide_eq_true h2]; rfl)
      go_wp2_with fail
      go_ret
      exact ⟨by rw [HR.out]; rfl, H4.out⟩
     ·have HR := Lib.hid (show r = decide ((s.cs.length : Int) <= 4) by rw [HV.out, decide_eq_true h1, decide_eq_false h2]; rfl)
      go_wp2_with fail
      go_ret
      exact ⟨by rw [HR.out]; rfl, H4.out⟩
    ·have HR := Lib.hid (show r = decide ((s.cs.length : Int) <= 4) by rw [HV.out, decide_eq_false h1]; rfl)
     go_wp2_with fail
     go_ret
     exact ⟨by rw [HR.out]; rfl, H4.out⟩
end

section
open Go.RowKit Go.Shelf Go.Deep
def vSlo (d : Sd) (v : Value) (W : World) : Prop := ∃ s : Sm, v = smV s /\ s.sd = d /\ SmOk s W
theorem vSlo_st {d : Sd} : ∀ v W W', vSlo d v W -> newer W W' -> vSlo d v W' := fun _ _ _ ⟨s, h1, h2, h3⟩ hb => ⟨s, h1, h2, h3.next hb⟩
theorem few_sd {s s2 : Sm} (h : s2.sd = s.sd) (f : SmFew s) : SmFew s2 := by
 have hc : s2.cs.map (fun x => x.beds) = s.cs.map (fun x => x.beds) := congrArg Sd.cols h
 refine ⟨by have := congrArg List.length hc; simp at this; rw [this]; exact f.cs, fun x hx => ?_⟩
 have hm : x.beds ∈ s.cs.map (fun x => x.beds) := by rw [<- hc]; exact List.mem_map.2 ⟨x, hx, rfl⟩
 obtain ⟨y, hy, hxy⟩ := List.mem_map.1 hm
 rw [<- hxy]
 exact f.bd y hy
end

section
open Go.RowKit Go.Shelf Go.Deep
theorem lawListO (l : List Int) (A : Option Addr) (cp : Nat) (w : World) (hl : l.length <= 1000) (hr : Row intL 1 w w.heap.size A l) : Calls Try.prog 29 #[.slice A l.length cp] w fun e w' => ∃ B c, e = .returned (.slice B l.length c) /\ w'.ownsRow w.heap.size 3 1 (.slice B l.length c) l.length (l.flatMap intL) /\ newer w w' := by
 have HR := Lib.hid (row_alloc hr (.cells #[] 3))
 obtain ⟨i0, hi0, hz0, hz1, hz2⟩ := info_parts info_int
 have HI := Lib.hid (And.intro hi0 (And.intro hz0 (And.intro hz1 hz2)))
 have HW := Lib.hid (Whole.made w 3 #[])
 clear hr hi0 hz0 hz1 hz2
 go_enter Try.func29, Try.ntmps29
 go_wp2_with (at_builtin; go_loud ((refine wpList_plain rfl fun K hK => wp_append_owncopy (enc := intL) (size := 1) w.heap.size (.tmp 3) (.tmp 4) 25 3 i0 (.int .i64 0) 8 Try.underlying25 HI.out.1 HI.out.2.1 HI.out.2.2.1 HI.out.2.2.2 rfl (by omega) (by omega) (fun _ => rfl) rfl w.heap.size rfl (Nat.le_refl _) HW.out l A cp rfl hl HR.out (by rw [World.size_alloc]; omega) fun B c w' hB hb hc => hK _ _ ?_); have HB := Lib.hid (And.intro hB (newer_trans (newer_allocH w (.cells #[] 3)) hb)); clear hB hb hc))
 go_ret
 exact ⟨_, _, rfl, HB.out.1, HB.out.2⟩
end

section
open Go.RowKit Go.Shelf Go.Deep
theorem info_l25 : (Try.prog.info? 25).map (fun i => (i.zero, i.size, i.bytes)) = some (some (.slice none 0 0), 1, 24) := by kernel_rfl
theorem info_l89 : (Try.prog.info? 89).map (fun i => (i.zero, i.size, i.bytes)) = some (some (.slice none 0 0), 1, 24) := by kernel_rfl
theorem own_old {w : World} {base size n c : Nat} {e : TypeId} {A : Option Addr} {a : Addr} {xs : List Value} (h : w.ownsRow base e size (.slice A n c) n xs) (ha : A = some a) : base <= a.block /\ a.block < w.heap.size := by
 subst ha
 rcases h.2 with ⟨h0, _⟩ | ⟨g, cap, cur, hv, hb, hg, _⟩
 ·cases h0
 ·injection hv with e1
  injection e1 with e1
  rw [e1]
  exact ⟨hb, (Array.getElem?_eq_some_iff.1 hg).1⟩
def apL (xs : List Ln) : Prop := ∀ (p q : Nat) (x y : Ln), xs[p]? = some x -> xs[q]? = some y -> p ≠ q -> x.a = y.a -> x.a = none
theorem get_snoc {α : Type} {xs : List α} {y : α} {r : Nat} {t : α} (ht : (xs ++ [y])[r]? = some t) : (r < xs.length /\ xs[r]? = some t) ∨ (r = xs.length /\ t = y) := by
 by_cases hr : r < xs.length
 ·rw [List.getElem?_append_left hr] at ht
  exact .inl ⟨hr, ht⟩
 ·rw [List.getElem?_append_right (by omega)] at ht
  obtain ⟨h1, h2⟩ := List.getElem?_eq_some_iff.1 ht
  simp at h1
  refine .inr ⟨by omega, ?_⟩
  rw [<- h2]
  simp
structure LnQ (src : List Ln) (k : Nat) (xs : List Ln) (A : Option Addr) (c : Nat) (w W : World) : Prop where
 nw : newer w W
 own : W.ownsRow w.heap.size 25 1 (.slice A xs.length c) xs.length (xs.flatMap lnL)
 ls : ∀ x ∈ xs, W.ownsRow w.heap.size 3 1 (.slice x.a x.l.length x.c) x.l.length (x.l.flatMap intL)
 eq : xs.map (fun x => x.l) = (src.take k).map fun x => x.l
 ln : xs.length = k
 ap : apL xs
section
variable {src : List Ln} {k : Nat} {xs : List Ln} {A : Option Addr} {c : Nat} {w W W' : World}
theorem LnQ.next (h : LnQ src k xs A c w W) (hb : newer W W') : LnQ src k xs A c w W' := ⟨newer_trans h.nw hb, own_below h.own hb, fun x hx => own_below (h.ls x hx) hb, h.eq, h.ln, h.ap⟩
theorem LnQ.add (h : LnQ src k xs A c w W) {x y : Ln} (hx : src[k]? = some x) (hy : y.l = x.l) (hc : W.ownsRow w.heap.size 3 1 (.slice y.a y.l.length y.c) y.l.length (y.l.flatMap intL)) (hfar : ∀ z ∈ xs, z.a = y.a -> z.a = none)
  {g2 c2 : Nat} (hown : W'.ownsRow w.heap.size 25 1 (.slice (some ⟨g2, 0, none⟩) (xs.length + 1) c2) (xs.length + 1) (xs.flatMap lnL ++ [lnV y])) (hw : (A = some ⟨g2, 0, none⟩ /\ c2 = c /\ W.grownBy W' (some g2)) ∨ (W.heap.size <= g2 /\ W.grownBy W' none)) :
  LnQ src (k + 1) (xs ++ [y]) (some ⟨g2, 0, none⟩) c2 w W' := by
 have hgr : W.grownBy W' (Value.slice A xs.length c).ownBlock := by
  rcases hw with ⟨h1, _, h3⟩ | ⟨_, h3⟩
  ·rw [h1]; exact h3
  ·exact h3.but _
 have k4 : ∀ z : Ln, W.ownsRow w.heap.size 3 1 (.slice z.a z.l.length z.c) z.l.length (z.l.flatMap intL) -> W'.ownsRow w.heap.size 3 1 (.slice z.a z.l.length z.c) z.l.length (z.l.flatMap intL) := fun z h2 => h2.kept hgr (own_apart h2 h.own (by decide))
 have hnw : newer w W' := by
  rcases hw with ⟨h1, _, h3⟩ | ⟨_, h3⟩
  ·refine Below.trans h.nw (below_of_grown h3 (own_ge h.own g2 (by rw [h1]; rfl)) h.nw.size)
  ·exact newer_trans h.nw (below_grown h3 (fun q e => by cases e) (Nat.le_refl _))
 refine ⟨hnw, ?_, fun z hz => ?_, ?_, by rw [List.length_append, h.ln]; rfl, fun p q u v hp hq hpq e => ?_⟩
 ·rw [List.length_append, List.flatMap_append]
  exact hown
 ·rcases List.mem_append.1 hz with hz | hz
  ·exact k4 z (h.ls z hz)
  ·obtain rfl : z = y := List.mem_singleton.1 hz
   exact k4 z hc
 ·rw [List.map_append, h.eq, List.take_add_one, hx, List.map_append]
  congr 1
  simp [hy]
 ·rcases get_snoc hp with ⟨a1, a2⟩ | ⟨a1, rfl⟩ <;> rcases get_snoc hq with ⟨b1, b2⟩ | ⟨b1, rfl⟩
  ·exact h.ap p q u v a2 b2 hpq e
  ·exact hfar u (List.mem_of_getElem? a2) e
  ·rw [e]; exact hfar v (List.mem_of_getElem? b2) e.symm
  ·omega
end
structure TbOwn (B : Nat) (xs : List Rw) (A : Option Addr) (c : Nat) (W : World) : Prop where
 own : W.ownsRow B 89 1 (.slice A xs.length c) xs.length (xs.flatMap rwL)
 rows : ∀ r ∈ xs, W.ownsRow B 25 1 (.slice r.a r.ls.length r.c) r.ls.length (r.ls.flatMap lnL)
 ls : ∀ r ∈ xs, ∀ x ∈ r.ls, W.ownsRow B 3 1 (.slice x.a x.l.length x.c) x.l.length (x.l.flatMap intL)
 ap : ∀ (p q i j : Nat) (r t : Rw) (x y : Ln), xs[p]? = some r -> xs[q]? = some t -> r.ls[i]? = some x -> t.ls[j]? = some y -> (p ≠ q ∨ i ≠ j) -> x.a = y.a -> x.a = none
theorem TbOwn.next {B : Nat} {xs : List Rw} {A : Option Addr} {c : Nat} {W W' : World} (h : TbOwn B xs A c W) (hb : newer W W') : TbOwn B xs A c W' := ⟨own_below h.own hb, fun r hr => own_below (h.rows r hr) hb, fun r hr x hx => own_below (h.ls r hr x hx) hb, h.ap⟩
theorem TbOwn.ok {B : Nat} {xs : List Rw} {A : Option Addr} {c : Nat} {W : World} (h : TbOwn B xs A c W) : TbOk xs A W := ⟨row_of_own (by omega) (fun _ => rfl) h.own, fun r hr => row_of_own (by omega) (fun _ => rfl) (h.rows r hr), fun r hr x hx => row_of_own (by omega) (fun _ => rfl) (h.ls r hr x hx)⟩
structure TbQ (src : List Rw) (k : Nat) (xs : List Rw) (A : Option Addr) (c : Nat) (w W : World) : Prop where
 nw : newer w W
 tb : TbOwn w.heap.size xs A c W
 eq : xs.map Rw.d = (src.take k).map Rw.d
 ln : xs.length = k
section
variable {src : List Rw} {k : Nat} {xs : List Rw} {A : Option Addr} {c : Nat} {w W W' : World}
theorem TbQ.next (h : TbQ src k xs A c w W) (hb : newer W W') : TbQ src k xs A c w W' := ⟨newer_trans h.nw hb, h.tb.next hb, h.eq, h.ln⟩
theorem TbQ.add (h : TbQ src k xs A c w W) {W1 : World} (hb1 : newer W W1) {x : Rw} {ys : List Ln} {A2 : Option Addr} {d : Nat} (hx : src[k]? = some x) (hq : LnQ x.ls x.ls.length ys A2 d W W1)
  {g2 c2 : Nat} (hown : W'.ownsRow w.heap.size 89 1 (.slice (some ⟨g2, 0, none⟩) (xs.length + 1) c2) (xs.length + 1) (xs.flatMap rwL ++ [.slice A2 ys.length d])) (hw : (A = some ⟨g2, 0, none⟩ /\ c2 = c /\ W1.grownBy W' (some g2)) ∨ (W1.heap.size <= g2 /\ W1.grownBy W' none)) :
  TbQ src (k + 1) (xs ++ [⟨ys, A2, d⟩]) (some ⟨g2, 0, none⟩) c2 w W' := by
 have h1 := h.next hb1
 have hgr : W1.grownBy W' (Value.slice A xs.length c).ownBlock := by
  rcases hw with ⟨h1, _, h3⟩ | ⟨_, h3⟩
  ·rw [h1]; exact h3
  ·exact h3.but _
 have k3 : ∀ z : Rw, W1.ownsRow w.heap.size 25 1 (.slice z.a z.ls.length z.c) z.ls.length (z.ls.flatMap lnL) -> W'.ownsRow w.heap.size 25 1 (.slice z.a z.ls.length z.c) z.ls.length (z.ls.flatMap lnL) := fun z h2 => h2.kept hgr (own_apart h2 h1.tb.own (by decide))
 have k4 : ∀ z : Ln, W1.ownsRow w.heap.size 3 1 (.slice z.a z.l.length z.c) z.l.length (z.l.flatMap intL) -> W'.ownsRow w.heap.size 3 1 (.slice z.a z.l.length z.c) z.l.length (z.l.flatMap intL) := fun z h2 => h2.kept hgr (own_apart h2 h1.tb.own (by decide))
 have hnw : newer w W' := by
  rcases hw with ⟨h0, _, h3⟩ | ⟨_, h3⟩
  ·refine Below.trans h1.nw (below_of_grown h3 (own_ge h1.tb.own g2 (by rw [h0]; rfl)) h1.nw.size)
  ·exact newer_trans h1.nw (below_grown h3 (fun q e => by cases e) (Nat.le_refl _))
 have hold : ∀ r ∈ xs, ∀ z ∈ r.ls, ∀ y ∈ ys, z.a = y.a -> z.a = none /\ y.a = none := fun r hr z hz y hy e => by
  cases ha : z.a with
  | none => exact ⟨rfl, by rw [<- e, ha]⟩
  | some a =>
   have g1 := (own_old (h.tb.ls r hr z hz) ha).2
   have g2 := (own_old (hq.ls y hy) (by rw [<- e, ha])).1
   omega
 refine ⟨hnw, ⟨?_, fun z hz => ?_, fun z hz y hy => ?_, fun p q i j r t u v hp hq' hi hj hne e => ?_⟩, ?_, by rw [List.length_append, h.ln]; rfl⟩
 ·rw [List.length_append, List.flatMap_append]
  exact hown
 ·rcases List.mem_append.1 hz with hz | hz
  ·exact k3 z (h1.tb.rows z hz)
  ·obtain rfl := List.mem_singleton.1 hz
   exact k3 ⟨ys, A2, d⟩ (own_more hq.own h.nw.size)
 ·rcases List.mem_append.1 hz with hz | hz
  ·exact k4 y (h1.tb.ls z hz y hy)
  ·obtain rfl := List.mem_singleton.1 hz
   exact k4 y (own_more (hq.ls y hy) h.nw.size)
 ·rcases get_snoc hp with ⟨a1, a2⟩ | ⟨a1, rfl⟩ <;> rcases get_snoc hq' with ⟨b1, b2⟩ | ⟨b1, rfl⟩
  ·exact h.tb.ap p q i j r t u v a2 b2 hi hj hne e
  ·exact (hold r (List.mem_of_getElem? a2) u (List.mem_of_getElem? hi) v (List.mem_of_getElem? hj) e).1
  ·exact (hold t (List.mem_of_getElem? b2) v (List.mem_of_getElem? hj) u (List.mem_of_getElem? hi) e.symm).2
  ·exact hq.ap i j u v hi hj (by omega) e
 ·rw [List.map_append, h.eq, List.take_add_one, hx, List.map_append]
  congr 1
  have e := hq.eq
  rw [List.take_length] at e
  simp [Rw.d, e]
end
set_option maxRecDepth 100000 in
set_option maxHeartbeats 1000000 in
theorem table_any (ts : List Rw) (A : Option Addr) (c : Nat) (w : World) (ht : TbOk ts A w) (tfe : TbFew ts) : Calls Try.prog 52 #[.slice A ts.length c] w fun e w' => ∃ (t2 : List Rw) (A9 : Option Addr) (c9 : Nat), e = .returned (.slice A9 t2.length c9) /\ t2.map Rw.d = ts.map Rw.d /\ TbOwn w.heap.size t2 A9 c9 w' /\ newer w w' := by
 obtain ⟨i25, hj0, hy0, hy1, hy2⟩ := info_parts info_l25
 have HI := Lib.hid (And.intro hj0 (And.intro hy0 (And.intro hy1 hy2)))
 clear hj0 hy0 hy1 hy2
 obtain ⟨i89, hj0, hy0, hy1, hy2⟩ := info_parts info_l89
 have HI9 := Lib.hid (And.intro hj0 (And.intro hy0 (And.intro hy1 hy2)))
 clear hj0 hy0 hy1 hy2
 have HT := Lib.hid (And.intro ht tfe)
 have H0 := Lib.hid (newer_refl w)
 clear ht tfe
 go_enter Try.func52, Try.ntmps52
 go_wp2_with fail
 go_loopw [3, 4] (fun s3 s4 wr => ∃ (k : Nat) (xs : List Rw) (B : Option Addr) (d : Nat), s4 = vi k /\ k <= ts.length /\ s3 = .slice B xs.length d /\ TbQ ts k xs B d w wr) (fun _ s4 _ => ts.length - (intOf s4).toNat)
 case atStart => exact ⟨0, [], none, 0, rfl, Nat.zero_le _, rfl, H0.out, ⟨⟨rfl, .inl ⟨rfl, rfl⟩⟩, fun r hr => by simp at hr, fun r hr => by simp at hr, fun p q i j r t x y hp => by simp at hp⟩, rfl, rfl⟩
 case round =>
  obtain ⟨k, xs, B, d, rfl, hk, rfl, hj⟩ := hrel
  have HJ := Lib.hid hj
  clear hj H0
  have hkb : (k : Int) <= 1000 := by have := HT.out.2.rows; omega
  by_cases hlt : k < ts.length
  case neg =>
   have hltI : ¬ ((k : Int) < ts.length) := by omega
   have HE : Hid (xs.map Rw.d = ts.map Rw.d) := Lib.hid (by
    have e := HJ.out.eq
    rw [List.take_of_length_le (by omega)] at e
    exact e)
   go_wp2_with fail
   go_ret
   exact ⟨xs, B, d, rfl, HE.out, HJ.out.tb, HJ.out.nw⟩
  case pos =>
  have hltI : (k : Int) < ts.length := by omega
  obtain ⟨x, hx⟩ := get_of_lt hlt
  obtain ⟨tb, to_, hA, _, hc0⟩ := rowRw (HT.out.1.next HJ.out.nw).rows hx
  subst hA
  have HX := Lib.hid (And.intro hx (HT.out.2.lss x (List.mem_of_getElem? hx)))
  have HXN := Lib.hid (HT.out.2.nums x (List.mem_of_getElem? hx))
  clear hx
  obtain ⟨wo, rfl⟩ : ∃ wo : World, wo = wr := ⟨_, rfl⟩
  go_wp2_with fail
  go_loopw [5, 6] (fun s5 s6 wr => ∃ (j : Nat) (ys : List Ln) (B2 : Option Addr) (d2 : Nat), s6 = vi j /\ j <= x.ls.length /\ s5 = .slice B2 ys.length d2 /\ LnQ x.ls j ys B2 d2 wo wr) (fun _ s6 _ => x.ls.length - (intOf s6).toNat)
  case atStart => exact ⟨0, [], none, 0, rfl, Nat.zero_le _, rfl, newer_refl _, ⟨rfl, .inl ⟨rfl, rfl⟩⟩, fun r hr => by simp at hr, rfl, rfl, fun p q x y hp => by simp at hp⟩
  case round =>
   obtain ⟨j, ys, B2, d2, rfl, hjl, rfl, hq⟩ := hrel
   have HQ := Lib.hid hq
   have hjb : (j : Int) <= 1000 := by have := HX.out.2; omega
   have c0 := keep_cell hc0 hq.nw
   clear hq hc0
   have l0 : ((x.ls.length : Int) <= 1000) := by have := HX.out.2; omega
   by_cases hlt2 : j < x.ls.length
   case neg =>
    have hlt2I : ¬ ((j : Int) < x.ls.length) := by omega
    obtain rfl : j = x.ls.length := by omega
    have hb1 := newer_allocH wr (.cells #[.slice B2 ys.length d2] 89)
    have hHq : Hid (LnQ x.ls x.ls.length ys B2 d2 wo (wr.alloc (.cells #[.slice B2 ys.length d2] 89))) := Lib.hid (HQ.out.next hb1)
    have HCW : Hid ((wr.alloc (.cells #[.slice B2 ys.length d2] 89)).cell? ⟨wr.heap.size, 0, none⟩ = some (.slice B2 ys.length d2)) := Lib.hid ((Whole.made wr 89 #[.slice B2 ys.length d2]).at 0 rfl)
    have HO := Lib.hid (HJ.out.next hHq.out.nw)
    have HXL : Hid (xs.length <= 1000) := Lib.hid (by have := HJ.out.ln; have := HT.out.2.rows; omega)
    clear hb1
    go_wp2_with (at_builtin; go_loud ((refine wpList_plain rfl fun _ hK => wp_append_one (.tmp 33) (.tmp 35) 87 rfl w.heap.size 89 i89 (.slice none 0 0) 24 Try.underlying87 HI9.out.1 HI9.out.2.1 HI9.out.2.2.1 HI9.out.2.2.2 rfl B xs.length d (xs.flatMap rwL) rfl HO.out.tb.own ⟨wr.heap.size, 0, none⟩ 1 (.slice B2 ys.length d2) rfl HCW.out rfl (by have := HXL.out; unfold maxLen; omega) (by have := HXL.out; omega) HO.out.nw.size fun g2 c2 w5 hown hwh => hK _ _ ?_); have HE := Lib.hid (HJ.out.add hHq.out.nw HX.out.1 hHq.out hown hwh); clear hown hwh))
    refine ⟨⟨k + 1, xs ++ [⟨ys, B2, d2⟩], some ⟨g2, 0, none⟩, c2, by simp, by omega, by simp, HE.out⟩, ?_⟩
    simp [intOf]
    omega
   case pos =>
   have hlt2I : (j : Int) < x.ls.length := by omega
   obtain ⟨y, hy⟩ := get_of_lt hlt2
   have hok := HT.out.1.next (newer_trans HJ.out.nw HQ.out.nw)
   have hmx := List.mem_of_getElem? HX.out.1
   have hmy := List.mem_of_getElem? hy
   obtain ⟨lb, lo_, hlA, _, c1⟩ := rowLn (hok.lss x hmx) hy
   have HL := Lib.hid (lawListO y.l y.a y.c wr (HXN.out y hmy) (hok.nums x hmx y hmy))
   have HY := Lib.hid hy
   rw [hlA] at c0
   clear hok hmx hmy hlA hy
   go_wp2_with fail
   refine (HL.out).mono ?_
   rintro e wl ⟨B3, d3, rfl, ho3, hb3⟩
   have hb1 := newer_allocH wl (.cells #[.slice B3 y.l.length d3] 25)
   have HQ2 : Hid (LnQ x.ls j ys B2 d2 wo (wl.alloc (.cells #[.slice B3 y.l.length d3] 25))) := Lib.hid (HQ.out.next (newer_trans hb3 hb1))
   have HCW : Hid ((wl.alloc (.cells #[.slice B3 y.l.length d3] 25)).cell? ⟨wl.heap.size, 0, none⟩ = some (.slice B3 y.l.length d3)) := Lib.hid ((Whole.made wl 25 #[.slice B3 y.l.length d3]).at 0 rfl)
   have HADD := Lib.hid (fun g2 c2 w5 => HQ2.out.add (W' := w5) HY.out (y := ⟨y.l, B3, d3⟩) rfl (own_more (own_below ho3 hb1) HQ.out.nw.size) (fun z hz e => by
    cases ha : z.a with
    | none => rfl
    | some a =>
     have g1 := (own_old (HQ.out.ls z hz) ha).2
     have g2 := (own_old ho3 (e.symm.trans ha)).1
     omega) (g2 := g2) (c2 := c2))
   have HYL : Hid (ys.length <= 1000) := Lib.hid (by have := HQ.out.ln; have := HX.out.2; omega)
   clear hb1 hb3 ho3 c0 c1 HL
   go_wp2_with (at_builtin; go_loud ((refine wpList_plain rfl fun _ hK => wp_append_one (.tmp 22) (.tmp 31) 89 rfl wo.heap.size 25 i25 (.slice none 0 0) 24 Try.underlying89 HI.out.1 HI.out.2.1 HI.out.2.2.1 HI.out.2.2.2 rfl B2 ys.length d2 (ys.flatMap lnL) rfl HQ2.out.own ⟨wl.heap.size, 0, none⟩ 1 (.slice B3 y.l.length d3) rfl HCW.out rfl (by have := HYL.out; unfold maxLen; omega) (by have := HYL.out; omega) HQ2.out.nw.size fun g2 c2 w5 hown hwh => hK _ _ ?_); have HE := Lib.hid (HADD.out g2 c2 w5 hown hwh); clear hown hwh))
   refine ⟨⟨j + 1, ys ++ [⟨y.l, B3, d3⟩], some ⟨g2, 0, none⟩, c2, by simp, by omega, by simp, HE.out⟩, ?_⟩
   simp [intOf]
   omega
end

section
open Go.RowKit Go.Shelf Go.Deep
theorem get_set {α : Type} {xs : List α} {r p : Nat} {x' t : α} (h : (xs.set r x')[p]? = some t) : (p = r /\ t = x') ∨ (p ≠ r /\ xs[p]? = some t) := by
 rw [List.getElem?_set] at h
 by_cases e : r = p
 ·rw [if_pos e] at h
  split at h
  ·injection h with h
   exact .inl ⟨e.symm, h.symm⟩
  ·cases h
 ·rw [if_neg e] at h
  exact .inr ⟨fun k => e k.symm, h⟩
theorem own_at {w : World} {base size n c : Nat} {e : TypeId} {A : Option Addr} {xs : List Value} (h : w.ownsRow base e size (.slice A n c) n xs) : A = none ∨ ∃ g, A = some ⟨g, 0, none⟩ := by
 rcases h.2 with ⟨h0, _⟩ | ⟨g, cap, cur, hv, _⟩
 ·injection h0 with h1
  exact .inl h1
 ·injection hv with h1
  exact .inr ⟨g, h1⟩
theorem own_far {w : World} {base size n c base2 size2 n2 c2 : Nat} {e e2 : TypeId} {A A2 : Option Addr} {xs xs2 : List Value} (h : w.ownsRow base e size (.slice A n c) n xs) (h2 : w.ownsRow base2 e2 size2 (.slice A2 n2 c2) n2 xs2) (ha : A = A2 -> A = none) : (Value.slice A n c).ownBlock = none ∨ (Value.slice A n c).ownBlock ≠ (Value.slice A2 n2 c2).ownBlock := by
 rcases own_at h with rfl | ⟨g, rfl⟩
 ·exact .inl rfl
 ·refine .inr fun e => ?_
  rcases own_at h2 with rfl | ⟨g2, rfl⟩
  ·simp [Value.ownBlock] at e
  ·have e3 : g = g2 := by simpa [Value.ownBlock] using e
   subst e3
   cases ha rfl
theorem own_setFar {w : World} {base size n c g i : Nat} {e : TypeId} {A A2 : Option Addr} {n2 c2 : Nat} {xs : List Value} (h : w.ownsRow base e size (.slice A n c) n xs) (hf : (Value.slice A n c).ownBlock = none ∨ (Value.slice A n c).ownBlock ≠ (Value.slice A2 n2 c2).ownBlock) (h2 : A2 = some ⟨g, 0, none⟩) (u : Value) : (w.setCell ⟨g, i, none⟩ u).ownsRow base e size (.slice A n c) n xs := by
 refine own_set h ?_ u
 subst h2
 rcases hf with h0 | h0
 ·rw [h0]; simp
 ·exact h0
theorem flat_lnL (ls : List Ln) : ls.flatMap lnL = ls.map fun x => lnV x := by
 induction ls with
 | nil => rfl
 | cons y t ih => rw [List.flatMap_cons, ih]; rfl
structure TbP (xs : List Rw) (A : Option Addr) (c : Nat) (w W : World) : Prop where
 nw : newer w W
 tb : TbOwn w.heap.size xs A c W
 apr : ∀ (p q : Nat) (r t : Rw), xs[p]? = some r -> xs[q]? = some t -> p ≠ q -> r.a = t.a -> r.a = none
section
variable {xs : List Rw} {A : Option Addr} {c : Nat} {w W W' W1 : World}
theorem TbP.next (h : TbP xs A c w W) (hb : newer W W') : TbP xs A c w W' := ⟨newer_trans h.nw hb, h.tb.next hb, h.apr⟩
theorem TbP.row (h : TbP xs A c w W) (hb1 : newer W W1) {ys : List Ln} {A2 : Option Addr} {d : Nat} (hq : LnQ ys ys.length ys A2 d W W1)
  {g2 c2 : Nat} (hown : W'.ownsRow w.heap.size 89 1 (.slice (some ⟨g2, 0, none⟩) (xs.length + 1) c2) (xs.length + 1) (xs.flatMap rwL ++ [.slice A2 ys.length d])) (hw : (A = some ⟨g2, 0, none⟩ /\ c2 = c /\ W1.grownBy W' (some g2)) ∨ (W1.heap.size <= g2 /\ W1.grownBy W' none)) :
  TbP (xs ++ [⟨ys, A2, d⟩]) (some ⟨g2, 0, none⟩) c2 w W' := by
 have h0 : TbQ (xs ++ [⟨ys, A2, d⟩]) xs.length xs A c w W := ⟨h.nw, h.tb, by rw [List.take_left], rfl⟩
 have h1 := h0.add hb1 (x := ⟨ys, A2, d⟩) (by simp) hq hown hw
 refine ⟨h1.nw, h1.tb, fun p q r t hp hq' hpq e => ?_⟩
 have hold : ∀ r ∈ xs, r.a = A2 -> r.a = none /\ A2 = none := fun r hr e => by
  cases ha : r.a with
  | none => exact ⟨rfl, by rw [<- e, ha]⟩
  | some a =>
   have g1 := (own_old (h.tb.rows r hr) ha).2
   have g2 := (own_old hq.own (by rw [<- e, ha])).1
   omega
 rcases get_snoc hp with ⟨a1, a2⟩ | ⟨a1, rfl⟩ <;> rcases get_snoc hq' with ⟨b1, b2⟩ | ⟨b1, rfl⟩
 ·exact h.apr p q r t a2 b2 hpq e
 ·exact (hold r (List.mem_of_getElem? a2) e).1
 ·exact (hold t (List.mem_of_getElem? b2) e.symm).2
 ·omega
theorem TbP.app (h : TbP xs A c w W) {r k : Nat} {x : Rw} {y : Ln} (hx : xs[r]? = some x) (hy : x.ls[k]? = some y) {g2 c2 : Nat} (hw : (y.a = some ⟨g2, 0, none⟩ /\ c2 = y.c /\ W.grownBy W' (some g2)) ∨ (W.heap.size <= g2 /\ W.grownBy W' none)) :
  newer w W' /\ W'.ownsRow w.heap.size 89 1 (.slice A xs.length c) xs.length (xs.flatMap rwL) /\ (∀ z ∈ xs, W'.ownsRow w.heap.size 25 1 (.slice z.a z.ls.length z.c) z.ls.length (z.ls.flatMap lnL)) /\
  (∀ (p i : Nat) (t : Rw) (z : Ln), xs[p]? = some t -> t.ls[i]? = some z -> (p ≠ r ∨ i ≠ k) -> W'.ownsRow w.heap.size 3 1 (.slice z.a z.l.length z.c) z.l.length (z.l.flatMap intL)) := by
 have hyo := h.tb.ls x (List.mem_of_getElem? hx) y (List.mem_of_getElem? hy)
 have hgr : W.grownBy W' (Value.slice y.a y.l.length y.c).ownBlock := by
  rcases hw with ⟨h1, _, h3⟩ | ⟨_, h3⟩
  ·rw [h1]; exact h3
  ·exact h3.but _
 have hnw : newer w W' := by
  rcases hw with ⟨h1, _, h3⟩ | ⟨_, h3⟩
  ·refine Below.trans h.nw (below_of_grown h3 (own_ge hyo g2 (by rw [h1]; rfl)) h.nw.size)
  ·exact newer_trans h.nw (below_grown h3 (fun q e => by cases e) (Nat.le_refl _))
 refine ⟨hnw, h.tb.own.kept hgr (own_apart h.tb.own hyo (by decide)), fun z hz => (h.tb.rows z hz).kept hgr (own_apart (h.tb.rows z hz) hyo (by decide)), fun p i t z hp hi hne => ?_⟩
 have hz := h.tb.ls t (List.mem_of_getElem? hp) z (List.mem_of_getElem? hi)
 exact hz.kept hgr (own_far hz hyo fun e => h.tb.ap p r i k t x z y hp hx hi hy hne e)
theorem TbP.put (h : TbP xs A c w W) {r k : Nat} {x : Rw} {y : Ln} (hx : xs[r]? = some x) (hy : x.ls[k]? = some y) {v : Int} {g g2 c2 : Nat} (hg : x.a = some ⟨g, 0, none⟩)
  (hown : W'.ownsRow w.heap.size 3 1 (.slice (some ⟨g2, 0, none⟩) (y.l.length + 1) c2) (y.l.length + 1) (y.l.flatMap intL ++ [vi v])) (hw : (y.a = some ⟨g2, 0, none⟩ /\ c2 = y.c /\ W.grownBy W' (some g2)) ∨ (W.heap.size <= g2 /\ W.grownBy W' none)) :
  TbP (xs.set r ⟨x.ls.set k ⟨y.l ++ [v], some ⟨g2, 0, none⟩, c2⟩, x.a, x.c⟩) A c w (W'.setCell ⟨g, k, none⟩ (.slice (some ⟨g2, 0, none⟩) (y.l.length + 1) c2)) := by
 obtain ⟨q1, q2, q3, q4⟩ := h.app hx hy hw
 have hrl := (List.getElem?_eq_some_iff.1 hx).1
 have hxo := q3 x (List.mem_of_getElem? hx)
 have hxo' := h.tb.rows x (List.mem_of_getElem? hx)
 have hyo := h.tb.ls x (List.mem_of_getElem? hx) y (List.mem_of_getElem? hy)
 have hge : w.heap.size <= g := (own_old hxo hg).1
 have hrw : (xs.set r ⟨x.ls.set k ⟨y.l ++ [v], some ⟨g2, 0, none⟩, c2⟩, x.a, x.c⟩).flatMap rwL = xs.flatMap rwL := by
  rw [List.flatMap_def, List.flatMap_def, List.map_set]
  congr 1
  refine List.ext_getElem? fun q => ?_
  rw [List.getElem?_set]
  by_cases hq : r = q
  ·subst hq
   rw [if_pos rfl, List.length_map, if_pos hrl, List.getElem?_map, hx]
   simp [rwL]
  ·rw [if_neg hq]
 have hnew : ∀ (p i : Nat) (t : Rw) (z : Ln), xs[p]? = some t -> t.ls[i]? = some z -> (p ≠ r ∨ i ≠ k) -> z.a = some ⟨g2, 0, none⟩ -> False := fun p i t z hp hi hne e => by
  have hz := h.tb.ls t (List.mem_of_getElem? hp) z (List.mem_of_getElem? hi)
  rcases hw with ⟨h1, _⟩ | ⟨h1, _⟩
  ·have := h.tb.ap p r i k t x z y hp hx hi hy hne (e.trans h1.symm)
   rw [e] at this
   cases this
  ·have := (own_old hz e).2
   have h3 : g2 < W.heap.size := this
   omega
 -- the lists of the new table
 have hlist : ∀ (p i : Nat) (t : Rw) (z : Ln), (xs.set r ⟨x.ls.set k ⟨y.l ++ [v], some ⟨g2, 0, none⟩, c2⟩, x.a, x.c⟩)[p]? = some t -> t.ls[i]? = some z -> (p = r /\ i = k /\ z = ⟨y.l ++ [v], some ⟨g2, 0, none⟩, c2⟩) ∨ ((p ≠ r ∨ i ≠ k) /\ ∃ t0, xs[p]? = some t0 /\ t0.ls[i]? = some z) := fun p i t z hp hi => by
  rcases get_set hp with ⟨e1, e2⟩ | ⟨e1, e2⟩
  ·subst e1
   rw [e2] at hi
   rcases get_set hi with ⟨e3, e4⟩ | ⟨e3, e4⟩
   ·exact .inl ⟨rfl, e3, e4⟩
   ·exact .inr ⟨.inr e3, x, hx, e4⟩
  ·exact .inr ⟨.inl e1, t, e2, hi⟩
 refine ⟨q1.setCell (p := ⟨g, k, none⟩) hge _, ⟨?_, fun z hz => ?_, fun z hz u hu => ?_, fun p q i j s t u v' hp hq hi hj hne e => ?_⟩, fun p q s t hp hq hne e => ?_⟩
 ·rw [hrw, List.length_set]
  exact own_setFar q2 (own_apart q2 hxo (by decide)) hg _
 ·obtain ⟨p, hp⟩ := List.mem_iff_getElem?.1 hz
  rcases get_set hp with ⟨e1, e2⟩ | ⟨e1, e2⟩
  ·subst e2
   have h5 := hxo
   rw [hg] at h5
   have h6 := own_setAt (off := k) (u := .slice (some ⟨g2, 0, none⟩) (y.l.length + 1) c2) h5
   simp only [List.length_set]
   rw [hg, flat_lnL, List.map_set, <- flat_lnL, show lnV ⟨y.l ++ [v], some ⟨g2, 0, none⟩, c2⟩ = .slice (some ⟨g2, 0, none⟩) (y.l.length + 1) c2 by simp [lnV]]
   exact h6
  ·exact own_setFar (q3 z (List.mem_of_getElem? e2)) (own_far (q3 z (List.mem_of_getElem? e2)) hxo fun e => h.apr p r z x e2 hx e1 e) hg _
 ·obtain ⟨p, hp⟩ := List.mem_iff_getElem?.1 hz
  obtain ⟨i, hi⟩ := List.mem_iff_getElem?.1 hu
  rcases hlist p i z u hp hi with ⟨_, _, e3⟩ | ⟨e1, t0, e2, e3⟩
  ·subst e3
   have h5 : W'.ownsRow w.heap.size 3 1 (.slice (some ⟨g2, 0, none⟩) (y.l ++ [v]).length c2) (y.l ++ [v]).length ((y.l ++ [v]).flatMap intL) := by
    rw [List.length_append, List.flatMap_append]
    exact hown
   exact own_setFar h5 (own_apart h5 hxo (by decide)) hg _
  ·have h5 := q4 p i t0 u e2 e3 e1
   exact own_setFar h5 (own_apart h5 hxo (by decide)) hg _
 ·rcases hlist p i s u hp hi with ⟨a1, a2, a3⟩ | ⟨a1, t0, a2, a3⟩ <;> rcases hlist q j t v' hq hj with ⟨b1, b2, b3⟩ | ⟨b1, t1, b2, b3⟩
  ·omega
  ·subst a3
   exact absurd e.symm (fun e => hnew q j t1 v' b2 b3 b1 e)
  ·subst b3
   exact absurd e (fun e => hnew p i t0 u a2 a3 a1 e)
  ·exact h.tb.ap p q i j t0 t1 u v' a2 b2 a3 b3 hne e
 ·rcases get_set hp with ⟨a1, a2⟩ | ⟨a1, a2⟩ <;> rcases get_set hq with ⟨b1, b2⟩ | ⟨b1, b2⟩
  ·omega
  ·subst a2 a1
   exact h.apr p q x t hx b2 hne e
  ·subst b2 b1
   exact h.apr p q s x a2 hx hne e
  ·exact h.apr p q s t a2 b2 hne e
end
end

section
open Go.RowKit Go.Shelf Go.Deep
abbrev farN : Int := 100000000000000
def tabD (s : Sd) (f : Int) : List (List (List Int)) := (List.range s.K).map fun r => (List.range s.cols.length).map fun k => (List.range s.n).map fun b => tabT (cS s f) bigN farN s.n s.K r k b
structure FD (T : Nat -> Nat -> Nat -> Int) (cols : Nat) (xs : List Rw) (len : Nat) (cnt : Nat -> Nat -> Nat) : Prop where
 ln : xs.length = len
 rw_ : ∀ (r : Nat) (x : Rw), xs[r]? = some x -> x.ls.length = cols /\ (∃ g, x.a = some ⟨g, 0, none⟩) /\ ∀ (i : Nat) (y : Ln), x.ls[i]? = some y -> y.l = (List.range (cnt r i)).map (T r i)
def cntP (n k b N : Nat) (r i : Nat) : Nat := if r < n ∨ (r = n /\ i < k) then N else if r = n /\ i = k then b else 0
section
variable {T : Nat -> Nat -> Nat -> Int} {cols len : Nat} {xs : List Rw} {cnt cnt' : Nat -> Nat -> Nat}
theorem FD.congr (h : FD T cols xs len cnt) (he : ∀ r i, r < len -> i < cols -> cnt r i = cnt' r i) : FD T cols xs len cnt' := ⟨h.ln, fun r x hx => by
 obtain ⟨h1, h2, h3⟩ := h.rw_ r x hx
 refine ⟨h1, h2, fun i y hy => ?_⟩
 rw [h3 i y hy, he r i (by have := (List.getElem?_eq_some_iff.1 hx).1; have := h.ln; omega) (by have := (List.getElem?_eq_some_iff.1 hy).1; omega)]⟩
theorem FD.row {N : Nat} (h : FD T cols xs len (fun _ _ => N)) (g d : Nat) : FD T cols (xs ++ [⟨List.replicate cols ⟨[], none, 0⟩, some ⟨g, 0, none⟩, d⟩]) (len + 1) (cntP len 0 0 N) := ⟨by rw [List.length_append, h.ln]; rfl, fun r x hx => by
 rcases get_snoc hx with ⟨a1, a2⟩ | ⟨a1, rfl⟩
 ·obtain ⟨h1, h2, h3⟩ := h.rw_ r x a2
  refine ⟨h1, h2, fun i y hy => ?_⟩
  rw [h3 i y hy]
  unfold cntP
  rw [if_pos (by have := h.ln; omega)]
 ·refine ⟨by simp, ⟨g, rfl⟩, fun i y hy => ?_⟩
  have h1 : y = ⟨[], none, 0⟩ := by
   have := List.mem_of_getElem? hy
   exact List.eq_of_mem_replicate this
  subst h1
  unfold cntP
  rw [if_neg (by have := h.ln; omega)]
  have e : (if r = len /\ i = 0 then 0 else 0) = 0 := by split <;> rfl
  rw [e]
  rfl⟩
theorem FD.put {n k b N : Nat} (h : FD T cols xs (n + 1) (cntP n k b N)) {x : Rw} {y : Ln} (hx : xs[n]? = some x) (hy : x.ls[k]? = some y) (hk : k < cols) (a : Option Addr) (c : Nat) : FD T cols (xs.set n ⟨x.ls.set k ⟨y.l ++ [T n k b], a, c⟩, x.a, x.c⟩) (n + 1) (cntP n k (b + 1) N) := ⟨by rw [List.length_set, h.ln], fun r t ht => by
 obtain ⟨h1, h2, h3⟩ := h.rw_ n x hx
 rcases get_set ht with ⟨a1, a2⟩ | ⟨a1, a2⟩
 ·subst a1
  subst a2
  refine ⟨by simpa using h1, h2, fun i z hz => ?_⟩
  rcases get_set hz with ⟨b1, b2⟩ | ⟨b1, b2⟩
  ·subst b1
   subst b2
   show y.l ++ [T r i b] = _
   rw [h3 i y hy]
   unfold cntP
   rw [if_neg (by omega), if_pos ⟨rfl, rfl⟩, if_neg (by omega), if_pos ⟨rfl, rfl⟩, List.range_succ, List.map_append]
   rfl
  ·rw [h3 i z b2]
   have e : cntP r k b N r i = cntP r k (b + 1) N r i := by unfold cntP; simp [b1]
   rw [e]
 ·obtain ⟨g1, g2, g3⟩ := h.rw_ r t a2
  refine ⟨g1, g2, fun i z hz => ?_⟩
  rw [g3 i z hz]
  have e : cntP n k b N r i = cntP n k (b + 1) N r i := by unfold cntP; simp [a1]
  rw [e]⟩
theorem FD.done {N : Nat} (h : FD T cols xs len (fun _ _ => N)) : xs.map Rw.d = (List.range len).map fun r => (List.range cols).map fun k => (List.range N).map (T r k) := by
 refine List.ext_getElem? fun r => ?_
 rw [List.getElem?_map, List.getElem?_map]
 by_cases hr : r < len
 ·obtain ⟨x, hx⟩ := get_of_lt (l := xs) (k := r) (by rw [h.ln]; exact hr)
  obtain ⟨h1, _, h3⟩ := h.rw_ r x hx
  rw [hx, List.getElem?_range hr]
  simp only [Option.map_some]
  congr 1
  refine List.ext_getElem? fun i => ?_
  unfold Rw.d
  rw [List.getElem?_map, List.getElem?_map]
  by_cases hi : i < cols
  ·obtain ⟨y, hy⟩ := get_of_lt (l := x.ls) (k := i) (by omega)
   rw [hy, List.getElem?_range hi]
   simp only [Option.map_some]
   rw [h3 i y hy]
  ·rw [List.getElem?_eq_none (by omega), List.getElem?_eq_none (by simp; omega)]
   rfl
 ·rw [List.getElem?_eq_none (by rw [h.ln]; omega), List.getElem?_eq_none (by simp; omega)]
  rfl
end
def befN (c : Nat -> Nat -> Int) (big far : Int) (n K : Nat) (r k b : Nat) : Int := if 0 < k /\ 0 < r then behindN big n (tabT c big far n K (r - 1) (k - 1)) b else if r = 0 then 0 else far
def befM (c : Nat -> Nat -> Int) (big far : Int) (n K : Nat) (r k b : Nat) : Int := if 0 < k /\ r = K - 1 then mnI (befN c big far n K r k b) (behindN big n (tabT c big far n K r (k - 1)) b) else befN c big far n K r k b
theorem tab_zero {c : Nat -> Nat -> Int} {big far : Int} {n K : Nat} (r b : Nat) : tabT c big far n K r 0 b = c 0 b + (if r = 0 then 0 else far) := by cases r <;> rfl
theorem tab_succ {c : Nat -> Nat -> Int} {big far : Int} {n K : Nat} (r k b : Nat) : tabT c big far n K r (k + 1) b = c (k + 1) b + (if r = K - 1 then mnI (if r = 0 then 0 else behindN big n (tabT c big far n K (r - 1) k) b) (behindN big n (tabT c big far n K r k) b) else (if r = 0 then 0 else behindN big n (tabT c big far n K (r - 1) k) b)) := by
 cases r with
 | zero => rfl
 | succ r => rfl
theorem tab_is {c : Nat -> Nat -> Int} {big far : Int} {n K : Nat} (r k b : Nat) : tabT c big far n K r k b = c k b + befM c big far n K r k b := by
 unfold befM befN
 cases k with
 | zero => rw [tab_zero]; simp
 | succ k =>
  rw [tab_succ]
  simp only [Nat.zero_lt_succ, true_and, Nat.add_sub_cancel, Nat.pos_iff_ne_zero, ne_eq]
  by_cases hr : r = 0
  ·simp [hr]
  ·simp [hr]
end

section
open Go.RowKit Go.Shelf Go.Deep
structure PfJ (s : Sm) (f : Int) (w : World) (lb : Nat) (T : Nat -> Nat -> Nat -> Int) (xs : List Rw) (A : Option Addr) (c len : Nat) (cnt : Nat -> Nat -> Nat) (W : World) : Prop where
 tp : TbP xs A c w W
 sx : Whole W w.heap.size 37 (smC s)
 lx : Whole W lb 115 (lkC s f (some false))
 fd : FD T s.cs.length xs len cnt
theorem PfJ.next {s : Sm} {f : Int} {w W W' : World} {lb : Nat} {T : Nat -> Nat -> Nat -> Int} {xs : List Rw} {A : Option Addr} {c len : Nat} {cnt : Nat -> Nat -> Nat} (h : PfJ s f w lb T xs A c len cnt W) (hb : newer W W') : PfJ s f w lb T xs A c len cnt W' := ⟨h.tp.next hb, h.sx.below hb h.sx.lt, h.lx.below hb h.lx.lt, h.fd⟩
theorem PfJ.put {s : Sm} {f : Int} {w W W' : World} {lb : Nat} {T : Nat -> Nat -> Nat -> Int} {xs : List Rw} {A : Option Addr} {c r k b n : Nat} (h : PfJ s f w lb T xs A c (r + 1) (cntP r k b n) W) {x : Rw} {y : Ln} (hx : xs[r]? = some x) (hy : x.ls[k]? = some y) (hk : k < s.cs.length) {g g2 c2 : Nat} (hg : x.a = some ⟨g, 0, none⟩)
  (hown : W'.ownsRow w.heap.size 3 1 (.slice (some ⟨g2, 0, none⟩) (y.l.length + 1) c2) (y.l.length + 1) (y.l.flatMap intL ++ [vi (T r k b)])) (hw : (y.a = some ⟨g2, 0, none⟩ /\ c2 = y.c /\ W.grownBy W' (some g2)) ∨ (W.heap.size <= g2 /\ W.grownBy W' none)) :
  PfJ s f w lb T (xs.set r ⟨x.ls.set k ⟨y.l ++ [T r k b], some ⟨g2, 0, none⟩, c2⟩, x.a, x.c⟩) A c (r + 1) (cntP r k (b + 1) n) (W'.setCell ⟨g, k, none⟩ (.slice (some ⟨g2, 0, none⟩) (y.l.length + 1) c2)) := by
 have hyo := h.tp.tb.ls x (List.mem_of_getElem? hx) y (List.mem_of_getElem? hy)
 have hxo := h.tp.tb.rows x (List.mem_of_getElem? hx)
 have hgr : W.grownBy W' (Value.slice y.a y.l.length y.c).ownBlock := by
  rcases hw with ⟨h1, _, h3⟩ | ⟨_, h3⟩
  ·rw [h1]; exact h3
  ·exact h3.but _
 rw [hg] at hxo
 have n1 : w.heap.size ≠ g := fun e => own_ne hxo h.sx (by decide) (by rw [e]; rfl)
 have n2 : lb ≠ g := fun e => own_ne hxo h.lx (by decide) (by rw [e]; rfl)
 exact ⟨h.tp.put hx hy hg hown hw, (h.sx.grown hgr (fun e => own_ne hyo h.sx (by decide) e.symm)).far (p := ⟨g, k, none⟩) n1 _, (h.lx.grown hgr (fun e => own_ne hyo h.lx (by decide) e.symm)).far (p := ⟨g, k, none⟩) n2 _, h.fd.put hx hy hk _ _⟩
theorem PfJ.num {s : Sm} {f : Int} {w W : World} {lb : Nat} {T : Nat -> Nat -> Nat -> Int} {us : List Rw} {c r k b n g2 : Nat} (h : PfJ s f w lb T us (some ⟨g2, 0, none⟩) c (r + 1) (cntP r k b n) W) (hk : k < s.cs.length) :
  ∃ (y : Ln) (g xc : Nat), W.cell? ⟨g2, r, none⟩ = some (.slice (some ⟨g, 0, none⟩) s.cs.length xc) /\ W.cell? ⟨g, k, none⟩ = some (.slice y.a b y.c) /\
   W.ownsRow w.heap.size 3 1 (.slice y.a b y.c) b (y.l.map vi) /\ some g2 ≠ (Value.slice y.a b y.c).ownBlock /\ some g ≠ (Value.slice y.a b y.c).ownBlock /\ some lb ≠ (Value.slice y.a b y.c).ownBlock /\ (∀ q, (Value.slice y.a b y.c).ownBlock = some q -> w.heap.size <= q /\ q < W.heap.size) /\
   (∀ g3 c3 W', Onto1 y.a y.c g3 c3 W W' -> W'.ownsRow w.heap.size 3 1 (.slice (some ⟨g3, 0, none⟩) (b + 1) c3) (b + 1) (y.l.map vi ++ [vi (T r k b)]) ->
    W'.cell? ⟨g, k, none⟩ = some (.slice y.a b y.c) /\ W'.frozen? ⟨g, k, none⟩ = false /\ ∃ us2, PfJ s f w lb T us2 (some ⟨g2, 0, none⟩) c (r + 1) (cntP r k (b + 1) n) (W'.setCell ⟨g, k, none⟩ (.slice (some ⟨g3, 0, none⟩) (b + 1) c3))) := by
 obtain ⟨x, hx⟩ := get_of_lt (l := us) (k := r) (by rw [h.fd.ln]; omega)
 obtain ⟨h1, ⟨g, hg⟩, h3⟩ := h.fd.rw_ r x hx
 obtain ⟨y, hy⟩ := get_of_lt (l := x.ls) (k := k) (by omega)
 have hyl := h3 k y hy
 have hcn : cntP r k b n r k = b := by unfold cntP; rw [if_neg (by omega), if_pos ⟨rfl, rfl⟩]
 rw [hcn] at hyl
 have hlb : y.l.length = b := by rw [hyl]; simp
 have hmx := List.mem_of_getElem? hx
 have hyo := h.tp.tb.ls x hmx y (List.mem_of_getElem? hy)
 have hxo := h.tp.tb.rows x hmx
 have hto := h.tp.tb.ok
 obtain ⟨p1, o1, e1, c1⟩ := rwAll hto.rows (ne_nil_of_get hx)
 injection e1 with e1
 injection e1 with e1 e1'
 subst e1
 subst e1'
 obtain ⟨p2, o2, e2, c3⟩ := lnAll (hto.lss x hmx) (ne_nil_of_get hy)
 rw [hg] at e2
 injection e2 with e2
 injection e2 with e2 e2'
 subst e2
 subst e2'
 have cx := c1 r x hx W (newer_refl W)
 rw [hg, h1, Nat.zero_add] at cx
 have cy := c3 k y hy W (newer_refl W)
 rw [hlb, Nat.zero_add] at cy
 have hyo2 := hyo
 rw [hlb, ints_flat] at hyo2
 have nx : ∀ (z : Option Addr) (q m d : Nat) (e : TypeId) (xs : List Value), W.ownsRow w.heap.size e 1 (.slice z m d) m xs -> z = some ⟨q, 0, none⟩ -> e ≠ 3 -> some q ≠ (Value.slice y.a b y.c).ownBlock := fun z q m d e xs ho hz hne => by
  rcases own_apart ho hyo2 hne with h5 | h5
  ·rw [hz] at h5
   simp [Value.ownBlock] at h5
  ·rw [hz] at h5
   simpa [Value.ownBlock] using h5
 refine ⟨y, g, x.c, cx, cy, hyo2, nx _ _ _ _ _ _ h.tp.tb.own rfl (by decide), nx _ _ _ _ _ _ hxo hg (by decide), (own_ne hyo2 h.lx (by decide)).symm, fun q hq => ⟨own_ge hyo2 q hq, own_lt hyo2 q hq⟩, fun g3 c3 W' hon hown => ?_⟩
 have hgr := hon.grown (n := b)
 obtain ⟨q1, q2, q3, q4⟩ := h.tp.app hx hy (W' := W') (g2 := g3) (c2 := c3) hon
 have hxo' := q3 x hmx
 rw [hg] at hxo'
 obtain ⟨cs, hcs⟩ := own_cells hxo'
 refine ⟨hgr.cell cy (nx _ _ _ _ _ _ hxo hg (by decide)), hcs.free k, ?_⟩
 have hput := h.put hx hy hk hg (W' := W') (g2 := g3) (c2 := c3) (by rw [hlb, ints_flat]; exact hown) hon
 rw [hlb] at hput
 exact ⟨_, hput⟩
end

section
open Go.RowKit Go.Shelf Go.Deep
theorem low_cost {s : Sd} (hs : SdOk s) {f : Int} (f0 : 0 <= f) (f1 : f <= 10000) : (lowT s f (some false)).isSome = true ↔ LowB (cS s f) s.n s.cols.length s.K :=
 have ok := hd_ok hs false
 lowS_iff (fun k b _ => cF_bd ok f0 (by omega) k b) (by decide) ok.n0 ok.K0 (few_big ok)
theorem behind_cong {big : Int} {n b : Nat} {row row' : Nat -> Int} (hb : b < n) (h : ∀ x, x < n -> row x = row' x) : behindN big n row b = behindN big n row' b := by
 unfold behindN
 congr 1
 exact List.map_congr_left fun x hx => h x ((mem_near hb).1 hx).1
theorem cell_cong {c : Nat -> Nat -> Int} {big : Int} {n cols K : Nat} {t t' : Nat -> Nat -> Nat -> Int} (h : ∀ r k b, r < K -> k < cols -> b < n -> t r k b = t' r k b) {r k b : Nat} (hr : r < K) (hk : k < cols) (hb : b < n) : cellT c big n K t r k b ↔ cellT c big n K t' r k b := by
 unfold cellT
 rw [h r k b hr hk hb]
 by_cases hk0 : 0 < k
 ·rw [behind_cong hb (fun x hx => h r (k - 1) x hr (by omega) hx)]
  by_cases hr0 : 0 < r
  ·rw [behind_cong hb (fun x hx => h (r - 1) (k - 1) x (by omega) (by omega) hx)]
  ·simp [hr0]
 ·simp [hk0]
theorem tab_at {s : Sd} {f : Int} {r k b : Nat} (hr : r < s.K) (hk : k < s.cols.length) (hb : b < s.n) : tN (tabD s f) r k b = tabT (cS s f) bigN farN s.n s.K r k b := by
 unfold tN tabD iAt
 simp only [List.getD_eq_getElem?_getD, List.getElem?_map, List.getElem?_range hr, List.getElem?_range hk, List.getElem?_range hb, Option.map_some, Option.getD_some]
theorem tab_prov {s : Sd} {f : Int} (h : enoughN s f = 0) : provO s f (tabD s f) = true := by
 obtain ⟨hs, f0, f1, hl⟩ := enough_zero h
 have ok := hd_ok hs false
 have hcb := cS_bd hs f0 (show f <= 10001 by omega)
 have hcl := hs.cols
 have hbig : ((s.cols.length + 1 : Nat) : Int) * 1300100000 + farN <= bigN := by
  show ((s.cols.length + 1 : Nat) : Int) * 1300100000 + 100000000000000 <= 1000000000000000
  omega
 have hfar : ((s.cols.length + 1 : Nat) : Int) * 1300100000 <= farN := by
  show ((s.cols.length + 1 : Nat) : Int) * 1300100000 <= 100000000000000
  omega
 have hbd : ∀ r k b, r < s.K -> k < s.cols.length -> b < s.n -> -bigN <= tabT (cS s f) bigN farN s.n s.K r k b /\ tabT (cS s f) bigN farN s.n s.K r k b <= bigN := fun r k b hr hk hb => by
  have hbig2 : ((k + 1 : Nat) : Int) * 1300100000 + farN <= bigN := by
   show ((k + 1 : Nat) : Int) * 1300100000 + 100000000000000 <= 1000000000000000
   omega
  exact real_bd hcb (by decide) (by decide) hbig2 (tabT_real hcb (by decide) (by decide) ok.K0 hbig r hr k hk b hb)
 have hpr := tabT_proves hcb (by decide) (by decide) ok.K0 hbig hfar fun k l hsf => by
  by_cases hneg : 0 <= costP (cS s f) k l
  ·exact hneg
  ·have h1 := (low_cost hs f0 f1).2 ⟨k, l, hsf, by omega⟩
   rw [hl] at h1
   cases h1
 unfold provO
 simp only [Bool.and_eq_true, decide_eq_true_eq]
 refine ⟨?_, ?_, ?_⟩
 ·unfold enoughN at h
  by_cases ha : askedN s f = 0
  ·exact ha
  ·rw [if_neg ha] at h
   exact h
 ·have hKi : (s.K : Int) = s.least := by have := hs.least; unfold Sd.K; omega
  unfold shT shR shL tabD
  simp only [Bool.and_eq_true, decide_eq_true_eq, List.all_eq_true, List.length_map, List.length_range, List.mem_map, List.mem_range]
  refine ⟨hKi, ?_⟩
  rintro x ⟨r, hr, rfl⟩
  refine ⟨by simp, ?_⟩
  rintro y hy
  obtain ⟨k, hk, rfl⟩ := List.mem_map.1 hy
  refine ⟨by simp, ?_⟩
  intro z hz
  obtain ⟨b, hb, rfl⟩ := List.mem_map.1 hz
  have h2 := hbd r k b hr (List.mem_range.1 hk) (List.mem_range.1 hb)
  simp only [inB, Bool.and_eq_true, decide_eq_true_eq]
  exact h2
 ·rw [provB_iff]
  intro r k b hr hk hb
  exact (cell_cong (fun r k b h1 h2 h3 => tab_at h1 h2 h3) hr hk hb).2 (hpr r k b hr hk hb)
end

end Go.Proofs.Ytkenokpobbichaa
