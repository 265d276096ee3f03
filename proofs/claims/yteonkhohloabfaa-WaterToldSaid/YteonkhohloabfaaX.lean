/- The reference of the water layer: the levels after the first days. Rows of numbers, and the walk of no day at all. -/
import Derived.Test.YteonkhohloabfaaL2
import Derived.Test.YteonkhohloabfaaU
import Derived.ArgAppend
namespace Go.Proofs.Yteonkhohloabfaa
open Go.RowKit

/-! ## Rows of numbers in a block of their own -/
def intArr (n : Nat) (f : Nat → Int) : Array Value := Array.ofFn (n := n) fun q => vi (f q.val)
theorem intArr_get {n : Nat} (f : Nat → Int) {k : Nat} (h : k < n) : (intArr n f)[k]? = some (vi (f k)) := by
  unfold intArr
  rw [Array.getElem?_ofFn, dif_pos h]
theorem intArr_set {n : Nat} (f f' : Nat → Int) {k : Nat} (x : Int) (he : ∀ i, i < n → f' i = if i = k then x else f i) : (intArr n f).setIfInBounds k (vi x) = intArr n f' := by
  apply Array.ext
  · simp [intArr]
  · intro q h1 h2
    have hq : q < n := by simpa [intArr] using h2
    rw [Array.getElem_setIfInBounds (by simpa [intArr] using hq)]
    simp only [intArr, Array.getElem_ofFn]
    rw [he q hq]
    by_cases e : k = q
    · subst e; rw [if_pos rfl, if_pos rfl]
    · rw [if_neg e, if_neg (Ne.symm e)]
theorem intArr_made (n : Nat) : madeCells #[Value.int .i64 0] n = intArr n (fun _ => 0) := by
  apply Array.ext
  · simp [madeCells, intArr]
  · intro q h1 h2
    simp [madeCells, intArr, Nat.mod_one]
theorem intArr_congr {n : Nat} {f f' : Nat → Int} (h : ∀ i, i < n → f i = f' i) : intArr n f = intArr n f' := by
  apply Array.ext
  · simp [intArr]
  · intro q a b
    have hq : q < n := by simpa [intArr] using b
    simp only [intArr, Array.getElem_ofFn]
    rw [h _ hq]
theorem make_ints (W : World) (n : Nat) (hn : n ≤ 1000) : (Instr.makeSlice 43 (.int .i64 (n : Int)) (.int .i64 (n : Int))).run Try.prog W = .ok (.slice (some ⟨W.heap.size, 0, none⟩) n n) (W.alloc (.cells (intArr n (fun _ => 0)) 3)) := by
  obtain ⟨i0, hi0, hz0, hz1, hz2⟩ := info_parts Try.info3
  have h := run_make (P := Try.prog) W 43 3 i0 _ Try.underlying43 hi0 hz0 .i64 .i64 n n (by omega) (by omega) (by rw [hz2]; omega) (by omega)
  rw [hz1] at h
  simp only [Int.toNat_natCast, Value.cells, Nat.mul_one, intArr_made] at h
  exact h

/-- append onto an empty row without room: a new one is made. -/
theorem wp_append_new {P : Program} {w : World} {o : Oper} {a : Act} {K : Act → World → Prop} {Q : Exit → Act → World → Prop} (s x : Operand) (t : TypeId)
    (ho : o.op = .call { callee := .builtin .append, args := #[s, x], argTypes := #[t, t] })
    (e : TypeId) (i : TypeInfo) (z : Value) (size bytes : Nat) (ht : P.underlying t = some (.slice e)) (hi : P.info? e = some i) (hz : i.zero = some z)
    (hsize : i.size = size) (hby : i.bytes = bytes) (hzs : z.cells.size = size) (hsz : 0 < size) (b : Addr) (hs : a.eval s = .slice (some b) 0 0)
    (ad : Addr) (m c : Nat) (news : List Value) (hx : a.eval x = .slice (some ad) m c) (hl : news.length = m * size) (hnews : ∀ j u, news[j]? = some u → w.cell? (ad.add j) = some u)
    (hm : 0 < m) (h63 : m ≤ maxLen) (hbytes : m * bytes ≤ 140737488355328)
    (h : ∀ g cap w', w'.ownsRow w.heap.size e size (.slice (some ⟨g, 0, none⟩) m cap) m news → Below w.heap.size w w' → K (a.put o.dst (.slice (some ⟨g, 0, none⟩) m cap)) w') : o.wp P a w K Q := by
  obtain ⟨v', w', hr, h2, h3⟩ := run_append_arg_grows (P := P) w t o.type e i z size bytes ht hi hz hsize hby hzs hsz b 0 0 [] (by simp) (fun j u hj => by simp at hj) ad m c news hl hnews (by omega) (by omega) (by rw [Nat.zero_add]; exact hbytes)
  simp only [Nat.zero_add, List.nil_append] at h2
  obtain ⟨g, cap, rfl, _, _⟩ := h2.form hm
  unfold Oper.wp execOp
  simp only [ho, resolve, invoke, builtin, Sem.run_bind, Sem.run_pure, Result.andThen_ok, List.map_toArray, List.map_cons, List.map_nil, hs, hx, hr]
  exact h g cap w' h2 ⟨h3.os, h3.tape, h3.output, h3.size, fun k hk => h3.block k hk (by simp)⟩

/-- What After leaves. -/
def aftered (w : World) (n : Nat) (x : St) (e : Ending) (w' : World) : Prop :=
  ∃ A cp, e = .returned (.tuple #[.slice A n cp, vi x.left, vi x.snow]) ∧ Row intL 1 w' w'.heap.size A ((List.range n).map x.f) ∧ Below w.heap.size w w'

theorem ints_flat (l : List Int) : l.flatMap intL = l.map vi := by
  induction l with
  | nil => rfl
  | cons x l ih => simp only [List.flatMap_cons, List.map_cons, ih]; rfl
theorem map_iAt (l : List Int) : (List.range l.length).map (iAt l) = l := by
  apply List.ext_getElem?
  intro i
  by_cases h : i < l.length
  · simp [h, iAt]
  · rw [List.getElem?_eq_none (by simp; omega), List.getElem?_eq_none (by omega)]

/-- An empty row, made new. -/
def vNone (v : Value) (_ : World) : Prop := ∃ nb, v = .slice (some ⟨nb, 0, none⟩) 0 0
theorem vNone_st : ∀ v W W', vNone v W → newer W W' → vNone v W' := fun _ _ _ h _ => h
/-- A row of elements, made new. -/
def vRow {α : Type} (enc : α → List Value) (s n : Nat) (l : List α) (v : Value) (W : World) : Prop := ∃ gg cap, v = .slice (some ⟨gg, 0, none⟩) n cap ∧ Row enc s W W.heap.size (some ⟨gg, 0, none⟩) l
theorem vRow_st {α : Type} {enc : α → List Value} {s n : Nat} {l : List α} : ∀ v W W', vRow enc s n l v W → newer W W' → vRow enc s n l v W' := fun _ _ _ ⟨gg, cap, h1, h2⟩ hb => ⟨gg, cap, h1, (h2.below hb).more hb.size⟩

set_option maxRecDepth 100000 in
set_option maxHeartbeats 2000000 in
theorem refAfter_zero (gv dv : Value) (gcs : Array Value) (snow soak : Int) (levels : List Int) (L : Option Addr) (lp : Nat) (R : Option Addr) (nr rp : Nat) (w : World) (hgv : gv = .agg gcs) (h1 : 1 ≤ levels.length) (h2 : levels.length ≤ 1000) (hl : Row intL 1 w w.heap.size L levels) :
    Calls Try.prog 22 #[gv, dv, truthV snow soak L levels.length lp R nr rp, .int .i64 0] w (aftered w levels.length ⟨iAt levels, snow, 0⟩) := by
  obtain ⟨lb, lo, rfl, _, _⟩ := hl (by intro e; rw [e] at h1; simp at h1)
  obtain ⟨n, hn⟩ : ∃ n, n = levels.length := ⟨_, rfl⟩
  rw [← hn] at h1 h2 ⊢
  have HN := Lib.hid hn
  have HL := Lib.hid hl
  subst hgv
  clear hn hl
  go_enter Try.func22, Try.ntmps22
  go_wp2
  obtain ⟨i0, hi0, hz0, hz1, hz2⟩ := info_parts Try.info3
  have HI := Lib.hid (And.intro hi0 (And.intro hz0 (And.intro hz1 hz2)))
  clear hi0 hz0 hz1 hz2
  refine gen_world (fun W => Below w.heap.size w W ∧ Whole W (w.heap.size + 1) 47 #[vi snow, vi soak, .slice (some ⟨lb, lo, none⟩) n lp, .slice R nr rp]) ⟨((Below.refl _ _).alloc (Nat.le_refl _) _).alloc (by simp) _, ?_⟩ ?_
  · have := Whole.made (w.alloc (.cells gcs 26)) 47 #[vi snow, vi soak, .slice (some ⟨lb, lo, none⟩) n lp, .slice R nr rp]
    rw [World.size_alloc] at this
    exact this
  rintro wv ⟨hbv, htv⟩
  have e0 := htv.at 0 rfl
  have e2 := htv.at 2 rfl
  have HR := Lib.hid ((HL.out.below hbv).more hbv.size)
  have HB := Lib.hid hbv
  clear htv hbv HL
  obtain ⟨hi0, hz0, hz1, hz2⟩ := HI.out
  refine wp_words (by kernel_rfl) (region_told 8 (by kernel_rfl) (by kernel_rfl) (fun W => Below wv.heap.size wv W) newer (pickD [vNone, vIs (.pointer (some ⟨w.heap.size + 1, 2, none⟩)), vIs (.slice (some ⟨lb, lo, none⟩) n lp), vRow intL 1 n levels, vIs (.pointer (some ⟨w.heap.size + 1, 0, none⟩)), vIs (vi snow), vRow intL 1 n levels, vIs (.int .i64 0)]) (fun h k => newer_trans h k) (pickD_stable _ ⟨vNone_st, vIs_st, vIs_st, vRow_st, vIs_st, vIs_st, vRow_st, vIs_st, trivial⟩) (Below.refl _ wv).drew (Below.refl _ _) ?_ ?_)
  · refine ⟨?_, ?_, ?_, ?_, ?_, ?_, ?_, ?_, trivial⟩
    · intro a W hG hR hO hp
      refine wp_makes (v := .slice (some ⟨W.heap.size, 0, none⟩) 0 0) (W' := W.alloc (.cells #[] 3)) ?_ ⟨_, rfl, ⟨_, rfl⟩, (Below.refl _ _).alloc (Nat.le_refl _) _, hG.alloc hG.size _⟩
      skip
      simp [execOp, go_sem]
    · intro a W hG hR hO hp
      have h6 := hO.slot 6 (by kernel_rfl)
      refine wp_yields (v := .pointer (some ⟨w.heap.size + 1, 2, none⟩)) ?_ ⟨_, rfl, rfl, Below.refl _ _, hG⟩
      simp [slotOf] at h6
      simp [execOp, go_sem, h6]
    · intro a W hG hR hO hp
      have h34 : slotOf a 34 = .pointer (some ⟨w.heap.size + 1, 2, none⟩) := hp.1
      have c0 := keep_cell e2 hG
      refine wp_yields (v := .slice (some ⟨lb, lo, none⟩) n lp) ?_ ⟨_, rfl, rfl, Below.refl _ _, hG⟩
      simp [slotOf] at h34
      simp [execOp, go_sem, h34, c0]
    · intro a W hG hR hO hp
      have h33 := hp.1
      have h35 : slotOf a 35 = .slice (some ⟨lb, lo, none⟩) n lp := hp.2.1
      obtain ⟨nb, h33⟩ := h33
      refine wp_append_new (.tmp 33) (.tmp 35) 43 rfl 3 i0 (.int .i64 0) 1 8 Try.underlying43 hi0 hz0 hz1 hz2 rfl (by omega) ⟨nb, 0, none⟩ ((eval_slot a 33).trans h33) ⟨lb, lo, none⟩ n lp (levels.flatMap intL) ((eval_slot a 35).trans h35) (by rw [flat_len (enc := intL) (s := 1) (fun _ => rfl), ← HN.out]) (row_news (enc := intL) (s := 1) (by omega) (fun _ => rfl) (HR.out.below hG)) (by omega) (by unfold maxLen; omega) (by omega) ?_
      intro gg cap W' hown hb
      exact ⟨_, rfl, ⟨gg, cap, rfl, row_of_own (by omega) (fun _ => rfl) hown⟩, hb, below_next hG hb⟩
    · intro a W hG hR hO hp
      have h6 := hO.slot 6 (by kernel_rfl)
      refine wp_yields (v := .pointer (some ⟨w.heap.size + 1, 0, none⟩)) ?_ ⟨_, rfl, rfl, Below.refl _ _, hG⟩
      simp [slotOf] at h6
      simp [execOp, go_sem, h6]
    · intro a W hG hR hO hp
      have h37 : slotOf a 37 = .pointer (some ⟨w.heap.size + 1, 0, none⟩) := hp.1
      have c0 := keep_cell e0 hG
      refine wp_yields (v := vi snow) ?_ ⟨_, rfl, rfl, Below.refl _ _, hG⟩
      simp [slotOf] at h37
      simp [execOp, go_sem, h37, c0]
    · intro a W hG hR hO hp
      have h36 := hp.1
      obtain ⟨gg, gcap, h36, hrow⟩ := h36
      refine wp_yields (v := .slice (some ⟨gg, 0, none⟩) n gcap) ?_ ⟨_, rfl, ⟨gg, gcap, rfl, hrow⟩, Below.refl _ _, hG⟩
      simp [slotOf] at h36
      simp [execOp, go_sem, h36]
    · intro a W hG hR hO hp
      refine wp_yields (v := .int .i64 0) ?_ ⟨_, rfl, rfl, Below.refl _ _, hG⟩
      skip
      simp [execOp, go_sem]
  · intro W hG hR
    rintro _ ⟨_, rfl⟩ _ rfl _ rfl _ ⟨_, _, rfl, _⟩ _ rfl _ rfl _ ⟨ga, gacap, rfl, hrow⟩ _ rfl
    change wpList _ _ _ _ _ _
    simp only [Act.put, List.setIfInBounds_toArray, List.set_cons_zero, List.set_cons_succ, List.drop_succ_cons, List.drop_zero]
    have HF : Hid (Row intL 1 W W.heap.size (some ⟨ga, 0, none⟩) levels ∧ Below w.heap.size w W) := ⟨hrow, below_next HB.out hG⟩
    clear hrow hG hR e0 e2 hi0 hz0 hz1 hz2
    go_wp2_with fail
    go_ret3
    refine ⟨some ⟨ga, 0, none⟩, gacap, rfl, ?_, HF.out.2⟩
    have := HF.out.1
    rw [HN.out, map_iAt]
    exact this
end Go.Proofs.Yteonkhohloabfaa
