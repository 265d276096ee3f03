/- The cheapest rest of a surface, by a memo: its memory. -/
import Derived.Test.YtkenokpobbichaaE
namespace Go.Proofs.Ytkenokpobbichaa
open Go.RowKit Go.Shelf Go.Deep

abbrev evI (n : Int) : Value := vi n
theorem spot_eq (a b : Int × Int) (W : World) : (Op.equal 162 (spotK a) (spotK b)).run Try.prog W = .ok (decide (a = b)) W := by
  obtain ⟨a1, a2⟩ := a
  obtain ⟨b1, b2⟩ := b
  have e : decide ((a1, a2) = (b1, b2)) = (a1 == b1 && a2 == b2) := by
    rw [Bool.eq_iff_iff]
    simp
  rw [e]
  simp [Op.equal, Op.maxDepth, go_sem]
  by_cases h1 : a1 = b1 <;> by_cases h2 : a2 = b2 <;> simp [h1, h2]
theorem spot_check (c : Bool) (a : Int × Int) (W : World) : (Instr.checkKey c 10000 162 (spotK a)).run Try.prog W = .ok () W := by
  have h : ∀ n, (Instr.checkKey c (n + 2) 162 (spotK a)).run Try.prog W = .ok () W := by
    intro n
    simp [Instr.checkKey, run_underlying Try.underlying162, run_underlying Try.underlying3, go_sem]
  exact h 9998
theorem spot_key : EqKey Try.prog 162 spotK := ⟨spot_eq, spot_check, spot_bits, _, Try.underlying162⟩
theorem zero3 (w : World) : (zeroValue 3).run Try.prog w = .ok (vi 0) w := by kernel_rfl
/-- A slope that is looked at, and the places of what the search for its cheapest surface holds. -/
structure RP where
  s : Sm
  f : Int
  t : Option Bool
  z : Nat
  xb : Nat
  tb : Nat
  mb : Nat
  kb : Nat
  pb : Nat
  fb : Nat
  B : Nat
structure RpOk (T : RP) : Prop where
  sd : SdOk T.s.sd
  f0 : 0 ≤ T.f
  f1 : T.f ≤ 10001
  zl : T.z < T.s.cs.length
  xm : T.xb ≠ T.mb
  tm : T.tb ≠ T.mb
  km : T.kb ≠ T.mb
  pm : T.pb ≠ T.mb
  fm : T.fb ≠ T.mb
  bm : T.B ≤ T.mb
abbrev rpA (T : RP) : Array Value := #[.pointer (some ⟨T.tb, 0, none⟩), .pointer (some ⟨T.pb, 0, none⟩), .pointer (some ⟨T.kb, 0, none⟩), .pointer (some ⟨T.xb, 0, none⟩), .pointer (some ⟨T.fb, 0, none⟩)]
def RP.c (T : RP) : Nat → Nat → Int := cF (hT T.t T.s.sd) (dAt T.s.sd) T.f
def RP.n (T : RP) : Nat := T.s.sd.n
/-- A slope lies in memory, below a block. -/
structure SmAt (s : Sm) (W : World) (B : Nat) : Prop where
  cs : Row clL 1 W B s.a s.cs
  bd : ∀ x ∈ s.cs, Row bdL 8 W B x.a x.beds
  le : B ≤ W.heap.size
theorem Row.same {α : Type} {enc : α → List Value} {s B : Nat} {w W : World} {A : Option Addr} {l : List α} (h : Row enc s w B A l) (hs : ∀ k, k < B → W.heap[k]? = w.heap[k]?) : Row enc s W B A l := by
  intro hl
  obtain ⟨b, off, e, hb, hc⟩ := h hl
  exact ⟨b, off, e, hb, fun k x hk j v hj => (cell_of_same (hs b hb) _).trans (hc k x hk j v hj)⟩
theorem SmAt.ok {s : Sm} {W : World} {B : Nat} (h : SmAt s W B) : SmOk s W := ⟨h.cs.more h.le, fun x hx => (h.bd x hx).more h.le⟩
theorem SmAt.same {s : Sm} {W W' : World} {B : Nat} (h : SmAt s W B) (hs : ∀ k, k < B → W'.heap[k]? = W.heap[k]?) (hl : W.heap.size ≤ W'.heap.size) : SmAt s W' B := ⟨h.cs.same hs, fun x hx => (h.bd x hx).same hs, Nat.le_trans h.le hl⟩
theorem SmOk.at {s : Sm} {W : World} (h : SmOk s W) : SmAt s W W.heap.size := ⟨h.cs, h.bd, Nat.le_refl _⟩
/-- What the search's memory holds. -/
structure RsM (T : RP) (lp : List ((Int × Int) × Int)) (W : World) : Prop where
  xl : Whole W T.xb 115 (lkC T.s T.f T.t)
  tl : Whole W T.tb 3 #[vi T.z]
  kl : Whole W T.kb 159 #[.map (some T.mb)]
  pl : Whole W T.pb 133 #[.func (.func 84) #[lkV T.s T.f T.t] #[]]
  fl : Whole W T.fb 160 #[.func (.func 114) #[] (rpA T)]
  mm : RMap spotK evI T.mb lp W
  at_ : SmAt T.s W T.B
/-- The memo holds what is right. -/
def Good (T : RP) (lp : List ((Int × Int) × Int)) : Prop := ∀ p ∈ lp, ∃ c b : Nat, p.1 = ((c : Int), (b : Int)) ∧ c ≤ T.z ∧ p.2 = restN T.c T.n bigN (T.z - c) c b
section
variable {T : RP} {lp : List ((Int × Int) × Int)} {W W' : World}
theorem RsM.next (h : RsM T lp W) (hb : newer W W') : RsM T lp W' :=
  ⟨h.xl.below hb h.xl.lt, h.tl.below hb h.tl.lt, h.kl.below hb h.kl.lt, h.pl.below hb h.pl.lt, h.fl.below hb h.fl.lt, h.mm.below hb h.mm.lt, h.at_.same (fun k hk => hb.block k (Nat.lt_of_lt_of_le hk h.at_.le)) hb.size⟩
theorem RsM.put (hT : RpOk T) (h : RsM T lp W) (lp' : List ((Int × Int) × Int)) : RsM T lp' (Go.ChangeMaps.setBlock W T.mb (.map (ents spotK evI lp') lp'.length)) := by
  refine ⟨h.xl.setBlock hT.xm _, h.tl.setBlock hT.tm _, h.kl.setBlock hT.km _, h.pl.setBlock hT.pm _, h.fl.setBlock hT.fm _, h.mm.put, h.at_.same (fun k hk => setBlock_get_ne _ (by have := hT.bm; omega)) (by simp [Go.ChangeMaps.setBlock])⟩
theorem good_put (h : Good T lp) {c b : Nat} {v : Int} (hc : c ≤ T.z) (hv : v = restN T.c T.n bigN (T.z - c) c b) : Good T (putR ((c : Int), (b : Int)) v lp) := by
  intro p hp
  unfold putR at hp
  have key : p ∈ lp ∨ p = (((c : Int), (b : Int)), v) := by
    split at hp
    · rcases List.mem_or_eq_of_mem_set hp with h1 | h1
      · exact .inl h1
      · exact .inr h1
    · rcases List.mem_append.1 hp with h1 | h1
      · exact .inl h1
      · exact .inr (List.mem_singleton.1 h1)
  rcases key with h1 | h1
  · exact h p h1
  · exact ⟨c, b, by rw [h1], hc, by rw [h1]; exact hv⟩
theorem good_look (h : Good T lp) {c b i : Nat} {v : Int} (ha : atR ((c : Int), (b : Int)) lp 0 = some (i, v)) : v = restN T.c T.n bigN (T.z - c) c b := by
  obtain ⟨_, h2⟩ := atR_some ha
  obtain ⟨c', b', h3, _, h5⟩ := h _ (List.mem_of_getElem? h2)
  simp only [Prod.mk.injEq] at h3
  have e1 : c' = c := by omega
  have e2 : b' = b := by omega
  subst e1
  subst e2
  exact h5
end
section
variable {T : RP} {lp : List ((Int × Int) × Int)} {W W' : World}
theorem RsM.far (h : RsM T lp W) {d : Nat} (hg : W.grownBy W' (some d)) (h1 : T.xb ≠ d) (h2 : T.tb ≠ d) (h3 : T.kb ≠ d) (h4 : T.pb ≠ d) (h5 : T.fb ≠ d) (h6 : T.mb ≠ d) (h7 : T.B ≤ d) : RsM T lp W' := by
  have ne : ∀ {k : Nat}, k ≠ d → some k ≠ some d := fun h e => h (by injection e)
  exact ⟨h.xl.grown hg (ne h1), h.tl.grown hg (ne h2), h.kl.grown hg (ne h3), h.pl.grown hg (ne h4), h.fl.grown hg (ne h5), h.mm.same (hg.block _ h.mm.lt (ne h6)), h.at_.same (fun k hk => hg.block k (Nat.lt_of_lt_of_le hk h.at_.le) (ne (by omega))) hg.size⟩
theorem grown_setBlock (W : World) (b : Nat) (o : Obj) : W.grownBy (Go.ChangeMaps.setBlock W b o) (some b) :=
  ⟨rfl, rfl, rfl, by simp [Go.ChangeMaps.setBlock], fun k _ hk => setBlock_get_ne o (fun e => hk (by rw [e]))⟩
theorem hT_at (t : Option Bool) (s : Sd) {k j : Nat} {b : Bd} (h : bedAt s.cols k j = some b) : hT t s k j = holdsN b (trR t b) := by
  match t with
  | some hi => simp only [hT, hAt, trR, h]
  | none => simp [hT, trR, holdsN]
theorem c_is {k j : Nat} {b : Bd} (h : bedAt T.s.sd.cols k j = some b) : T.c k j = costB T.f T.t b := by
  unfold RP.c cF costB
  rw [hT_at T.t T.s.sd h]
  simp only [dAt, h]
theorem sm_bed {s : Sm} (h : SdOk s.sd) {k j : Nat} (hk : k < s.cs.length) (hj : j < s.sd.n) : ∃ x b, s.cs[k]? = some x ∧ x.beds[j]? = some b ∧ x.beds.length = s.sd.n ∧ bedAt s.sd.cols k j = some b ∧ bdB b = true := by
  obtain ⟨x, hx⟩ := get_of_lt hk
  have hm : x.beds ∈ s.sd.cols := List.mem_map.2 ⟨x, List.mem_of_getElem? hx, rfl⟩
  have hl := h.len _ hm
  obtain ⟨b, hb⟩ := get_of_lt (l := x.beds) (k := j) (by omega)
  refine ⟨x, b, hx, hb, hl, ?_, h.bd _ hm b (List.mem_of_getElem? hb)⟩
  have e : s.sd.cols[k]? = some x.beds := by simp [Sm.sd, hx]
  simp only [bedAt, e, hb]
theorem price_any (hT : RpOk T) (hok : SmOk T.s W) {k j : Nat} (hk : k ≤ T.z) (hj : j < T.n) : Calls Try.prog 84 #[lkV T.s T.f T.t, vi k, vi j] W fun e w' => e = .returned (vi (T.c k j)) ∧ newer W w' := by
  obtain ⟨x, b, h1, h2, _, h4, h5⟩ := sm_bed hT.sd (k := k) (j := j) (by have := hT.zl; omega) hj
  rw [c_is h4]
  exact cost_any T.s T.f T.t k j x b W hok h1 h2 h5 hT.f0 hT.f1
theorem ok_of (hT' : RpOk T) : HdOk (hT T.t T.s.sd) (dAt T.s.sd) T.n T.s.cs.length T.s.sd.K := by
  match ht : T.t with
  | some hi =>
    have h := hd_ok hT'.sd hi
    rw [sd_len] at h
    exact h
  | none =>
    have h := zero_ok (hd_ok hT'.sd false)
    rw [sd_len] at h
    exact h
end
/-- The recursion's contract, for so many columns left. -/
def RestC (T : RP) (m : Nat) : Prop := ∀ (c b : Nat) (lp : List ((Int × Int) × Int)) (W : World), c + m = T.z → b < T.n → RsM T lp W → Good T lp →
  Calls Try.prog 114 (#[.agg #[vi c, vi b]] ++ rpA T) W fun e W' => e = .returned (vi (restN T.c T.n bigN m c b)) ∧ ∃ lp', RsM T lp' W' ∧ Good T lp' ∧ W.grownBy W' (some T.mb)

end Go.Proofs.Ytkenokpobbichaa
