/- The first list of so many villages more with which a plan suffices: the recursive closure of Court. -/
import Derived.Test.YtpnpnfjhjjdmgaaBM
import Derived.Test.YtpnpnfjhjjdmgaaBG
namespace Go.Proofs.Ytpnpnfjhjjdmgaa
open Go.RowKit Go.Deep

/-- All lists of so many elements of a list, in order, by their places. -/
def combs {α : Type} : List α → Nat → List (List α)
  | _, 0 => [[]]
  | [], _ + 1 => []
  | a :: t, m + 1 => (combs t m).map (a :: ·) ++ combs t (m + 1)
/-- The first list that begins so, with so many more from a place on, that is right. -/
def chooseD (f : List Int → Bool) (ag l : List Int) (i m : Nat) : Option (List Int) := ((combs (ag.drop i) m).map (l ++ ·)).find? f
theorem choose_zero {f : List Int → Bool} {ag l : List Int} {i : Nat} : chooseD f ag l i 0 = if f l then some l else none := by
  unfold chooseD combs
  simp only [List.map_cons, List.map_nil, List.append_nil, List.find?_cons, List.find?_nil]
  split <;> simp_all
theorem choose_end {f : List Int → Bool} {ag l : List Int} {m : Nat} : chooseD f ag l ag.length (m + 1) = none := by
  unfold chooseD
  rw [List.drop_length]
  rfl
theorem choose_next {f : List Int → Bool} {ag l : List Int} {i m : Nat} {a : Int} (h : ag[i]? = some a) : chooseD f ag l i (m + 1) = (chooseD f ag (l ++ [a]) (i + 1) m).orElse fun _ => chooseD f ag l (i + 1) (m + 1) := by
  unfold chooseD
  obtain ⟨hi, he⟩ := List.getElem?_eq_some_iff.1 h
  rw [List.drop_eq_getElem_cons hi, he]
  simp only [combs, List.map_append, List.map_map, List.find?_append]
  have : ((fun x => l ++ x) ∘ fun x => a :: x) = fun x => l ++ [a] ++ x := by funext x; simp
  rw [this]
  cases List.find? f (List.map (fun x => l ++ [a] ++ x) (combs (List.drop (i + 1) ag) m)) <;> rfl
/-- Is there a plan that suffices, when some villages more agree? -/
def chF (q : Pj) (l : List Int) : Bool := (bestD true (decQ q l) (-1)).isSome
theorem dec_fault {q : Pj} (h : FaultOk q) (l : List Int) : FaultOk (decQ q l) :=
  ⟨h.wn, h.nn, by show (decL q.villages l).length ≤ 6; rw [decL_len]; exact h.vn, h.years, h.slopes, h.pn, h.ps, by show ∀ x ∈ q.works, wdB q.years q.slopes (decL q.villages l).length x = true; rw [decL_len]; exact h.ws, h.ns⟩
/-- What Court holds in memory, for its closure. -/
structure ChM (p : Pm) (pb ab fb : Nat) (ag : List Int) (G : Option Addr) (gc B : Nat) (W : World) : Prop where
  pm : PmAt p W B
  wp : Whole W pb 35 (pmC p)
  wa : Whole W ab 25 #[.slice G ag.length gc]
  ar : Row intL 1 W B G ag
  wh : Whole W fb 111 #[.func (.func 66) #[] #[.pointer (some ⟨pb, 0, none⟩), .pointer (some ⟨ab, 0, none⟩), .pointer (some ⟨fb, 0, none⟩)]]
  lt : B ≤ W.heap.size
  low : pb < B ∧ ab < B ∧ fb < B
section
variable {p : Pm} {pb ab fb : Nat} {ag : List Int} {G : Option Addr} {gc B : Nat} {W W' : World}
theorem ChM.grown {row : Option Nat} (h : ChM p pb ab fb ag G gc B W) (hg : W.grownBy W' row) (hr : ∀ k, row = some k → B ≤ k) : ChM p pb ab fb ag G gc B W' := by
  have hl := h.lt
  have hlow := h.low
  have hc : ∀ q : Addr, q.block < B → W'.cell? q = W.cell? q := fun q hq => by
    have hb := hg.block q.block (by omega) (fun e => by have := hr q.block e.symm; omega)
    simp [World.cell?, hb]
  have hk : ∀ {k : Nat} {t : TypeId} {cs : Array Value}, Whole W k t cs → k < B → Whole W' k t cs := fun hw hlt => hw.grown hg (fun e => by have := hr _ e.symm; omega)
  exact ⟨h.pm.keep hc, hk h.wp hlow.1, hk h.wa hlow.2.1, h.ar.keep hc, hk h.wh hlow.2.2, Nat.le_trans hl hg.size, hlow⟩
theorem ChM.next (h : ChM p pb ab fb ag G gc B W) (hb : newer W W') : ChM p pb ab fb ag G gc B W' := h.grown (grown_of_newer hb none) (fun _ e => by cases e)
end
theorem lt17 {j : Nat} (h : j < 17) : j = 0 ∨ j = 1 ∨ j = 2 ∨ j = 3 ∨ j = 4 ∨ j = 5 ∨ j = 6 ∨ j = 7 ∨ j = 8 ∨ j = 9 ∨ j = 10 ∨ j = 11 ∨ j = 12 ∨ j = 13 ∨ j = 14 ∨ j = 15 ∨ j = 16 := by omega
def vCh1 (b : Option (List Int)) (v : Value) (W : World) : Prop := ∃ A n c, v = .slice A n c ∧ ∀ x, b = some x → n = x.length ∧ Row intL 1 W W.heap.size A x
theorem vCh1_st {b : Option (List Int)} : ∀ v W W', vCh1 b v W → newer W W' → vCh1 b v W' := fun _ _ _ ⟨A, n, c, h1, h2⟩ hb => ⟨A, n, c, h1, fun x hx => ⟨(h2 x hx).1, ((h2 x hx).2.below hb).more hb.size⟩⟩
/-- The longer list, in place or in a block made since. -/
def vOn2 (base : Nat) (A : Option Addr) (n c : Nat) (l : List Int) (y : Int) (w : World) (v : Value) (W : World) : Prop := ∃ g c', v = .slice (some ⟨g, 0, none⟩) (n + 1) c' ∧ W.ownsRow base 3 1 (.slice (some ⟨g, 0, none⟩) (n + 1) c') (n + 1) (l.map vi ++ [vi y]) ∧ ((A = some ⟨g, 0, none⟩ ∧ c' = c) ∨ w.heap.size ≤ g)
theorem vOn2_st {base : Nat} {A : Option Addr} {n c : Nat} {l : List Int} {y : Int} {w : World} : ∀ v W W', vOn2 base A n c l y w v W → newer W W' → vOn2 base A n c l y w v W' := fun _ _ _ ⟨g, c', h1, h2, h3⟩ hb => ⟨g, c', h1, own_below h2 hb, h3⟩
def chosenR (b : Option (List Int)) (v : Value) (W : World) : Prop := ∃ A n c, v = .tuple #[.slice A n c, .bool b.isSome] ∧ ∀ x, b = some x → n = x.length ∧ Row intL 1 W W.heap.size A x
theorem chosenR_st {b : Option (List Int)} : ∀ v W W', chosenR b v W → newer W W' → chosenR b v W' := fun _ _ _ ⟨A, n, c, h1, h2⟩ hb => ⟨A, n, c, h1, fun x hx => ⟨(h2 x hx).1, ((h2 x hx).2.below hb).more hb.size⟩⟩
/-- The closure's contract, for so many more. -/
def ChC (p : Pm) (pb ab fb : Nat) (ag : List Int) (G : Option Addr) (gc B m : Nat) : Prop := ∀ (l : List Int) (n : Nat) (A : Option Addr) (c i : Nat) (W : World),
  ChM p pb ab fb ag G gc B W → W.ownsRow B 3 1 (.slice A n c) n (l.map vi) → (l = [] → A = none) → l.length = n → i ≤ ag.length → n + m ≤ 8 → (∀ v ∈ l, 0 ≤ v ∧ v < p.vs.length) →
  Calls Try.prog 66 #[.slice A n c, .int .i64 i, .int .i64 m, .pointer (some ⟨pb, 0, none⟩), .pointer (some ⟨ab, 0, none⟩), .pointer (some ⟨fb, 0, none⟩)] W fun e W' => (∃ v, e = .returned v ∧ chosenR (chooseD (chF p.pj) ag l i m) v W') ∧ W'.ownsRow B 3 1 (.slice A n c) n (l.map vi) ∧ W.grownBy W' (Value.slice A n c).ownBlock
section
variable {p : Pm} {pb ab fb : Nat} {ag : List Int} {G : Option Addr} {gc B : Nat}
set_option maxRecDepth 100000 in
set_option maxHeartbeats 4000000 in
theorem choose_leaf (hf : FaultOk p.pj) (hpc : p.ps.length ≤ p.pc) : ChC p pb ab fb ag G gc B 0 := by
  intro l n A c i w hm ho h0 hn hi hnm hlv
  subst hn
  have HPO := Lib.hid (pjOk_of hf)
  have HFO := Lib.hid hf
  have HLV := Lib.hid hlv
  have HNM := Lib.hid hnm
  have HPC := Lib.hid hpc
  have H00 := Lib.hid h0
  have hself := Below.refl w.heap.size w
  have H1 := Lib.hid (And.intro (hself) (And.intro (hm) (ho)))
  clear hself hm ho hlv hnm hpc h0 hi hf
  rw [choose_zero]
  obtain ⟨fl, hfl⟩ : ∃ fl, fl = chF p.pj l := ⟨_, rfl⟩
  have HFL := Lib.hid hfl
  rw [← hfl]
  clear hfl
  have x0 := H1.out.2.1.wp.at 0 (v := vi p.years) rfl
  have x1 := H1.out.2.1.wp.at 1 (v := vi p.slopes) rfl
  have x2 := H1.out.2.1.wp.at 2 (v := .slice p.wa p.ws.length p.wc) rfl
  have x3 := H1.out.2.1.wp.at 3 (v := .slice p.na p.ns.length p.nc) rfl
  have x4 := H1.out.2.1.wp.at 4 (v := .slice p.va p.vs.length p.vc) rfl
  have x5 := H1.out.2.1.wp.at 5 (v := .slice p.pa p.ps.length p.pc) rfl
  have HRL := Lib.hid (row_of_own (enc := intL) (size := 1) (l := l) (by omega) (fun _ => rfl) (by rw [← map_intL]; exact H1.out.2.2))
  go_enter Try.func66, Try.ntmps66
  go_wp2_with fail
  refine (decided_any p l A c w (H1.out.2.1.pm.ok H1.out.2.1.lt) (by have := HPO.out.vn; omega) (by have := HNM.out; omega) HLV.out HRL.out).mono ?_
  rintro e w2 ⟨⟨p2, rfl, hj2, ho2, hpc2⟩, hb⟩
  have HJ2 := Lib.hid (And.intro hj2 (hpc2 HPC.out))
  clear hj2 hpc2
  have H3 := Lib.hid (And.intro ((newer_trans H1.out.1 hb)) (And.intro ((H1.out.2.1.next hb)) (And.intro ((own_below H1.out.2.2 hb)) (ho2))))
  clear hb ho2 HRL H1 x0 x1 x2 x3 x4 x5
  obtain ⟨bd, hbd⟩ : ∃ bd, bd = bestD true (decQ p.pj l) (-1) := ⟨_, rfl⟩
  have hfd : bd.isSome = fl := by rw [hbd]; exact HFL.out.symm
  have HT := Lib.hid (tried_any p2 (-1) true w2 H3.out.2.2.2 (pjOk_of (by rw [HJ2.out.1]; exact dec_fault HFO.out l)) HJ2.out.2)
  rw [HJ2.out.1, ← hbd, hfd] at HT
  obtain ⟨cd, hcd⟩ : ∃ cd, cd = costOf bd := ⟨_, rfl⟩
  rw [← hcd] at HT
  clear hcd hfd hbd
  go_wp2_with fail
  refine (plans_any p2 (-1) w2).mono ?_
  rintro e w3 ⟨qb, mb, rfl, hn, hq, hmp, h1, h2, h3⟩
  have HQ := Lib.hid (HT.out qb mb w3 hn hq hmp h1 h2 h3)
  clear hn hq hmp h1 h2 h3 HT
  go_wp2_with fail
  refine (HQ.out).mono ?_
  rintro e w4 ⟨⟨pv, rfl, -⟩, hb⟩
  have H4 := Lib.hid (And.intro ((newer_trans H3.out.1 hb)) (And.intro ((H3.out.2.1.next hb)) ((own_below H3.out.2.2.1 hb))))
  clear hb HQ HJ2 H3
  go_wp2_with fail
  refine (clone_any l A c B w4 (by have := HNM.out; omega) H4.out.2.2 H00.out).mono ?_
  rintro e w5 ⟨D, dc, rfl, ho5, hb, -⟩
  have H5 := Lib.hid (And.intro ((newer_trans H4.out.1 hb)) (And.intro ((H4.out.2.1.next hb)) (And.intro ((own_below H4.out.2.2 hb)) (ho5))))
  clear hb ho5 H4
  have hrow := row_of_own (enc := intL) (size := 1) (l := l) (by omega) (fun _ => rfl) (by rw [← map_intL]; exact H5.out.2.2.2)
  have HRW := Lib.hid hrow
  clear hrow
  cases fl with
  | false =>
    go_wp2_with fail
    go_ret2
    refine ⟨⟨_, rfl, ?_⟩, H5.out.2.2.1, grown_of_newer H5.out.1 _⟩
    exact ⟨D, _, _, rfl, fun x hx => by simp at hx⟩
  | true =>
    go_wp2_with fail
    go_ret2
    refine ⟨⟨_, rfl, ?_⟩, H5.out.2.2.1, grown_of_newer H5.out.1 _⟩
    exact ⟨D, _, _, rfl, fun x hx => by simp at hx; subst hx; exact ⟨rfl, HRW.out⟩⟩
set_option maxRecDepth 100000 in
set_option maxHeartbeats 8000000 in
theorem choose_step (hag : ∀ v ∈ ag, 0 ≤ v ∧ v < p.vs.length) (hal : ag.length ≤ 8) {m : Nat} (ih : ChC p pb ab fb ag G gc B m) : ChC p pb ab fb ag G gc B (m + 1) := by
  intro l n A c i w hm ho h0 hn hi hnm hlv
  have HIH := Lib.hid ih
  have HLV := Lib.hid hlv
  have HLN := Lib.hid hn
  have HAG := Lib.hid hag
  have HAL := Lib.hid hal
  have HNM := Lib.hid hnm
  obtain ⟨f, hf⟩ : ∃ f, f = chF p.pj := ⟨_, rfl⟩
  have HF := Lib.hid hf
  rw [← hf]
  obtain ⟨mm, hmm⟩ : ∃ mm, mm = m + 1 := ⟨_, rfl⟩
  have HMM := Lib.hid hmm
  rw [← hmm]
  have e1 : ((mm : Int) == 0) = false := by rw [beq_eq_false_iff_ne]; omega
  have HI := Lib.hid hi
  have H0 := Lib.hid (And.intro hm ho)
  obtain ⟨i3, hi0, hz0, hz1, hz2⟩ := info_parts Try.info3w
  have HI3 := Lib.hid (And.intro hi0 (And.intro hz0 (And.intro hz1 hz2)))
  clear hi0 hz0 hz1 hz2 hf hmm ih hlv hn hag hal hnm hi hm ho h0
  go_enter Try.func66, Try.ntmps66
  go_wp2_with fail
  go_loopw [14] (fun s14 wr => ∃ j : Nat, i ≤ j ∧ j ≤ ag.length ∧ s14 = .int .i64 j ∧ ChM p pb ab fb ag G gc B wr ∧ wr.ownsRow B 3 1 (.slice A n c) n (l.map vi) ∧ w.grownBy wr (Value.slice A n c).ownBlock ∧ chooseD f ag l i mm = chooseD f ag l j mm) (fun s14 _ => ag.length - (intOf s14).toNat)
  case atStart => exact ⟨i, Nat.le_refl _, HI.out, rfl, H0.out.1, H0.out.2, grown_refl _ _, rfl⟩
  case round =>
    obtain ⟨j, hij, hj, rfl, hm, ho, hg, hch⟩ := hrel
    obtain ⟨wv, hwv⟩ : ∃ wv : World, wv = wr := ⟨_, rfl⟩
    rw [← hwv] at hm ho hg ⊢
    clear hwv wr H0
    have HM := Lib.hid (And.intro hm (And.intro ho hg))
    have HCH := Lib.hid hch
    have cab := hm.wa.at 0 (v := .slice G ag.length gc) rfl
    have chb := hm.wh.at 0 (v := .func (.func 66) #[] #[.pointer (some ⟨pb, 0, none⟩), .pointer (some ⟨ab, 0, none⟩), .pointer (some ⟨fb, 0, none⟩)]) rfl
    clear hm ho hg hch
    have hal := HAL.out
    by_cases hlt : j < ag.length
    · have hjn : (j : Int) < ag.length := by omega
      obtain ⟨a, ha⟩ := get_of_lt hlt
      have HA := Lib.hid ha
      obtain ⟨b2, o2, e2, hb2, cg⟩ := row1 HM.out.1.ar ha
      subst e2
      have e48 : IntKind.i64.wrap ((j : Int) + 1) = (j : Int) + 1 := IntWalk.i64_in _ (by omega)
      have e50 : IntKind.i64.wrap ((mm : Int) - 1) = m := by rw [IntWalk.i64_in _ (by have := HMM.out; have := HNM.out; omega)]; have := HMM.out; omega
      have HNB : Hid (∀ k, k < B → some k ≠ (Value.slice A n c).ownBlock) := Lib.hid (fun k hk e => by have := own_ge HM.out.2.1 k e.symm; omega)
      have HLW := Lib.hid HM.out.1.low
      have HB2 := Lib.hid hb2
      have hnB : ∀ q, (Value.slice A n c).ownBlock = some q → q < wv.heap.size := own_lt HM.out.2.1
      have HSZ := Lib.hid HM.out.1.lt
      obtain ⟨bx, hbx⟩ : ∃ bx, bx = chooseD f ag (l ++ [a]) (j + 1) m := ⟨_, rfl⟩
      have HBX := Lib.hid hbx
      clear ha hb2 hbx
      go_upto_region 7 with fail
      refine wp_words (by kernel_rfl) (region_live 17 (by kernel_rfl) (by kernel_rfl) (fun W => wv.grownBy W (Value.slice A n c).ownBlock ∧ W.ownsRow B 3 1 (.slice A n c) n (l.map vi)) (fun i W W' => i = 7 ∨ i = 12 ∨ newer W W') [none, none, none, none, none, none, some 7, some 12, none, none, none, none, none, none, none, none, none] (pickD [vIs (.func (.func 66) #[] #[.pointer (some ⟨pb, 0, none⟩), .pointer (some ⟨ab, 0, none⟩), .pointer (some ⟨fb, 0, none⟩)]), vIs (.slice A n c), vIs (.slice (some ⟨b2, o2, none⟩) ag.length gc), vIs (.int .i64 j), vIs (.pointer (some ⟨b2, o2 + j, none⟩)), vIs (vi a), vOne wv.heap.size 3 #[vi a], vOn2 B A n c l a wv, vIs (.int .i64 j), vIs (.int .i64 (j + 1 : Nat)), vIs (.int .i64 mm), vIs (.int .i64 m), chosenR bx, chosenR bx, vCh1 bx, vIs (.bool bx.isSome), vCh1 bx]) ?_ ⟨grown_drew (grown_refl _ _), own_below HM.out.2.1 (Below.refl _ _).drew⟩ ?_ ?_)
      · intro listed i jx v W W' hi hne hui hlj hpi hcl hpk hD hR
        by_cases hj17 : jx < 17
        · rcases hR with rfl | rfl | hR
          · rcases lt17 hj17 with rfl | rfl | rfl | rfl | rfl | rfl | rfl | rfl | rfl | rfl | rfl | rfl | rfl | rfl | rfl | rfl | rfl
            · exact hD
            · exact hD
            · exact hD
            · exact hD
            · exact hD
            · exact hD
            · exact absurd rfl (hpk 7 rfl).1
            · exact absurd rfl hne
            · exact hD
            · exact hD
            · exact hD
            · exact hD
            · rw [show listed.getD 7 false = true from (hcl 12 7 (by omega) (by kernel_rfl) hlj)] at hui
              cases hui
            · rw [show listed.getD 7 false = true from (hcl 12 7 (by omega) (by kernel_rfl) (hcl 13 12 (by omega) (by kernel_rfl) hlj))] at hui
              cases hui
            · rw [show listed.getD 7 false = true from (hcl 12 7 (by omega) (by kernel_rfl) (hcl 13 12 (by omega) (by kernel_rfl) (hcl 14 13 (by omega) (by kernel_rfl) hlj)))] at hui
              cases hui
            · rw [show listed.getD 7 false = true from (hcl 12 7 (by omega) (by kernel_rfl) (hcl 13 12 (by omega) (by kernel_rfl) (hcl 15 13 (by omega) (by kernel_rfl) hlj)))] at hui
              cases hui
            · rw [show listed.getD 7 false = true from (hcl 12 7 (by omega) (by kernel_rfl) (hcl 13 12 (by omega) (by kernel_rfl) (hcl 14 13 (by omega) (by kernel_rfl) (hcl 16 14 (by omega) (by kernel_rfl) hlj))))] at hui
              cases hui
          · rcases lt17 hj17 with rfl | rfl | rfl | rfl | rfl | rfl | rfl | rfl | rfl | rfl | rfl | rfl | rfl | rfl | rfl | rfl | rfl
            · exact hD
            · exact hD
            · exact hD
            · exact hD
            · exact hD
            · exact hD
            · have h7 := (hpk 7 rfl).2
              rw [hpi 7 (by kernel_rfl)] at h7
              cases h7
            · exact absurd rfl (hpk 12 rfl).1
            · exact hD
            · exact hD
            · exact hD
            · exact hD
            · exact absurd rfl hne
            · rw [show listed.getD 12 false = true from (hcl 13 12 (by omega) (by kernel_rfl) hlj)] at hui
              cases hui
            · rw [show listed.getD 12 false = true from (hcl 13 12 (by omega) (by kernel_rfl) (hcl 14 13 (by omega) (by kernel_rfl) hlj))] at hui
              cases hui
            · rw [show listed.getD 12 false = true from (hcl 13 12 (by omega) (by kernel_rfl) (hcl 15 13 (by omega) (by kernel_rfl) hlj))] at hui
              cases hui
            · rw [show listed.getD 12 false = true from (hcl 13 12 (by omega) (by kernel_rfl) (hcl 14 13 (by omega) (by kernel_rfl) (hcl 16 14 (by omega) (by kernel_rfl) hlj)))] at hui
              cases hui
          · exact pickD_stable (R := newer) [vIs (.func (.func 66) #[] #[.pointer (some ⟨pb, 0, none⟩), .pointer (some ⟨ab, 0, none⟩), .pointer (some ⟨fb, 0, none⟩)]), vIs (.slice A n c), vIs (.slice (some ⟨b2, o2, none⟩) ag.length gc), vIs (.int .i64 j), vIs (.pointer (some ⟨b2, o2 + j, none⟩)), vIs (vi a), vOne wv.heap.size 3 #[vi a], vOn2 B A n c l a wv, vIs (.int .i64 j), vIs (.int .i64 (j + 1 : Nat)), vIs (.int .i64 mm), vIs (.int .i64 m), chosenR bx, chosenR bx, vCh1 bx, vIs (.bool bx.isSome), vCh1 bx] ⟨vIs_st, vIs_st, vIs_st, vIs_st, vIs_st, vIs_st, vOne_st, vOn2_st, vIs_st, vIs_st, vIs_st, vIs_st, chosenR_st, chosenR_st, vCh1_st, vIs_st, vCh1_st, trivial⟩ jx v W W' hD hR
        · obtain ⟨q, rfl⟩ : ∃ q, jx = q + 17 := ⟨jx - 17, by omega⟩
          exact trivial
      · refine ⟨?_, ?_, ?_, ?_, ?_, ?_, ?_, ?_, ?_, ?_, ?_, ?_, ?_, ?_, ?_, ?_, ?_, trivial⟩
        · intro listed a_ W hun hG hO hp
          have h5 := hO.slot 5 (by kernel_rfl)
          have c0 := hG.1.cell chb (HNB.out fb HLW.out.2.2)
          refine wp_yields (v := .func (.func 66) #[] #[.pointer (some ⟨pb, 0, none⟩), .pointer (some ⟨ab, 0, none⟩), .pointer (some ⟨fb, 0, none⟩)]) ?_ ⟨_, rfl, rfl, .inr (.inr (newer_refl _)), hG⟩
          simp [slotOf] at h5
          simp [execOp, go_sem, h5, c0]
        · intro listed a_ W hun hG hO hp
          have h0 := hO.slot 0 (by kernel_rfl)
          refine wp_yields (v := .slice A n c) ?_ ⟨_, rfl, rfl, .inr (.inr (newer_refl _)), hG⟩
          simp [slotOf] at h0
          simp [execOp, go_sem, h0]
        · intro listed a_ W hun hG hO hp
          have h4 := hO.slot 4 (by kernel_rfl)
          have c0 := hG.1.cell cab (HNB.out ab HLW.out.2.1)
          refine wp_yields (v := .slice (some ⟨b2, o2, none⟩) ag.length gc) ?_ ⟨_, rfl, rfl, .inr (.inr (newer_refl _)), hG⟩
          simp [slotOf] at h4
          simp [execOp, go_sem, h4, c0]
        · intro listed a_ W hun hG hO hp
          have h14 := hO.slot 14 (by kernel_rfl)
          refine wp_yields (v := .int .i64 j) ?_ ⟨_, rfl, rfl, .inr (.inr (newer_refl _)), hG⟩
          simp [slotOf] at h14
          simp [execOp, go_sem, h14]
        · intro listed a_ W hun hG hO hp
          have h41 : slotOf a_ 41 = .slice (some ⟨b2, o2, none⟩) ag.length gc := hp.1
          have h42 : slotOf a_ 42 = .int .i64 j := hp.2.1
          refine wp_yields (v := .pointer (some ⟨b2, o2 + j, none⟩)) ?_ ⟨_, rfl, rfl, .inr (.inr (newer_refl _)), hG⟩
          simp [slotOf] at h41 h42
          simp [execOp, go_sem, h41, h42, hjn]
        · intro listed a_ W hun hG hO hp
          have h43 : slotOf a_ 43 = .pointer (some ⟨b2, o2 + j, none⟩) := hp.1
          have c0 := hG.1.cell cg (HNB.out b2 HB2.out)
          refine wp_yields (v := vi a) ?_ ⟨_, rfl, rfl, .inr (.inr (newer_refl _)), hG⟩
          simp [slotOf] at h43
          simp [execOp, go_sem, h43, c0]
        · intro listed a_ W hun hG hO hp
          have h44 : slotOf a_ 44 = vi a := hp.1
          refine wp_makes (v := .slice (some ⟨W.heap.size, 0, none⟩) 1 1) (W' := W.alloc (.cells #[vi a] 3)) ?_ ⟨_, rfl, ⟨_, rfl, hG.1.size, Whole.made _ _ _⟩, .inr (.inr (newer_allocH _ _)), grown_alloc hG.1 _, own_below hG.2 (newer_allocH _ _)⟩
          simp [slotOf] at h44
          simp [execOp, go_sem, h44]
        · intro listed a_ W hun hG hO hp
          have h40 : slotOf a_ 40 = .slice A n c := hp.1
          have h45 : listed.getD 7 false = false → (vOne wv.heap.size 3 #[vi a]) (slotOf a_ 45) W := hp.2.1
          obtain ⟨nb, h45, hnb, hW⟩ := h45 hun
          obtain ⟨hi0, hz0, hz1, hz2⟩ := HI3.out
          have hnm := HNM.out
          refine wp_append_one (.tmp 40) (.tmp 45) 25 rfl B 3 i3 (.int .i64 0) 8 Try.underlying25 hi0 hz0 hz1 hz2 rfl A n c (l.map vi) ((eval_slot a_ 40).trans h40) hG.2 ⟨nb, 0, none⟩ 1 (vi a) ((eval_slot a_ 45).trans h45) (hW.at 0 rfl) rfl (by unfold maxLen; omega) (by omega) (Nat.le_trans HSZ.out hG.1.size) ?_
          intro g c' w1 hown hon
          refine ⟨_, rfl, ⟨g, c', rfl, hown, ?_⟩, .inl rfl, ?_, ?_⟩
          · rcases hon with ⟨e1, e2, _⟩ | ⟨e1, _⟩
            · exact .inl ⟨e1, e2⟩
            · exact .inr (Nat.le_trans hG.1.size e1)
          · rcases hon with ⟨e1, _, e3⟩ | ⟨_, e3⟩
            · exact grown_trans' hG.1 (by rw [e1]; exact e3)
            · exact grown_trans' hG.1 (e3.but _)
          · rcases hon with ⟨e1, e2, _⟩ | ⟨_, e3⟩
            · rw [e1, ← e2]
              exact own_prefix hown
            · exact hG.2.kept e3 (by rcases Option.eq_none_or_eq_some (Value.slice A n c).ownBlock with e | ⟨k, e⟩; exact .inl e; exact .inr (by rw [e]; simp))
        · intro listed a_ W hun hG hO hp
          have h14 := hO.slot 14 (by kernel_rfl)
          refine wp_yields (v := .int .i64 j) ?_ ⟨_, rfl, rfl, .inr (.inr (newer_refl _)), hG⟩
          simp [slotOf] at h14
          simp [execOp, go_sem, h14]
        · intro listed a_ W hun hG hO hp
          have h47 : slotOf a_ 47 = .int .i64 j := hp.1
          refine wp_yields (v := .int .i64 (j + 1 : Nat)) ?_ ⟨_, rfl, rfl, .inr (.inr (newer_refl _)), hG⟩
          simp [slotOf] at h47
          simp [execOp, go_sem, h47, e48]
        · intro listed a_ W hun hG hO hp
          have h2 := hO.slot 2 (by kernel_rfl)
          refine wp_yields (v := .int .i64 mm) ?_ ⟨_, rfl, rfl, .inr (.inr (newer_refl _)), hG⟩
          simp [slotOf] at h2
          simp [execOp, go_sem, h2]
        · intro listed a_ W hun hG hO hp
          have h49 : slotOf a_ 49 = .int .i64 mm := hp.1
          refine wp_yields (v := .int .i64 m) ?_ ⟨_, rfl, rfl, .inr (.inr (newer_refl _)), hG⟩
          simp [slotOf] at h49
          simp [execOp, go_sem, h49, e50]
        · intro listed a_ W hun hG hO hp
          have h39 : slotOf a_ 39 = .func (.func 66) #[] #[.pointer (some ⟨pb, 0, none⟩), .pointer (some ⟨ab, 0, none⟩), .pointer (some ⟨fb, 0, none⟩)] := hp.1
          have h46 : listed.getD 12 false = false → (vOn2 B A n c l a wv) (slotOf a_ 46) W := hp.2.1
          have h48 : slotOf a_ 48 = .int .i64 (j + 1 : Nat) := hp.2.2.1
          have h50 : slotOf a_ 50 = .int .i64 m := hp.2.2.2.1
          obtain ⟨g, c2, h46, hown, hat⟩ := h46 hun
          have hcm := HM.out.1.grown hG.1 (own_ge HM.out.2.1)
          have hcc := HIH.out (l ++ [a]) (n + 1) (some ⟨g, 0, none⟩) c2 (j + 1) W hcm (by rw [List.map_append]; exact hown) (fun h => by simp at h) (by rw [List.length_append, HLN.out]; rfl) hlt (by have := HNM.out; omega) (fun v hv => by rcases List.mem_append.1 hv with hv | hv; exact HLV.out v hv; rw [List.mem_singleton] at hv; subst hv; exact HAG.out _ (List.mem_of_getElem? HA.out))
          rw [← HF.out, ← HBX.out] at hcc
          refine wp_enters (f := 66) (args := #[.slice (some ⟨g, 0, none⟩) (n + 1) c2, .int .i64 (j + 1 : Nat), .int .i64 m, .pointer (some ⟨pb, 0, none⟩), .pointer (some ⟨ab, 0, none⟩), .pointer (some ⟨fb, 0, none⟩)]) ?_ (hcc.mono ?_)
          · simp [slotOf] at h39 h46 h48 h50
            simp [go_sem, h39, h46, h48, h50]
          · rintro e w2 ⟨⟨v, rfl, hv⟩, ho2, hg2⟩
            rw [List.map_append] at ho2
            have hk : ∀ k, (Value.slice A n c).ownBlock = some k → k < wv.heap.size := own_lt HM.out.2.1
            refine ⟨_, rfl, _, rfl, hv, .inr (.inl rfl), ?_, ?_⟩
            · rcases hat with ⟨rfl, -⟩ | hat
              · exact grown_trans' hG.1 hg2
              · exact ⟨hg2.os.trans hG.1.os, hg2.tape.trans hG.1.tape, hg2.output.trans hG.1.output, Nat.le_trans hG.1.size hg2.size, fun k hlt hne => (hg2.block k (Nat.lt_of_lt_of_le hlt hG.1.size) (by intro e; injection e with e; have e3 : k = g := e; omega)).trans (hG.1.block k hlt hne)⟩
            · rcases hat with ⟨rfl, rfl⟩ | hat
              · exact own_prefix ho2
              · exact hG.2.kept hg2 (by rcases Option.eq_none_or_eq_some (Value.slice A n c).ownBlock with e | ⟨k, e⟩; exact .inl e; exact .inr (by rw [e]; intro e2; injection e2 with e2; have e3 : k = g := e2; have := hk k e; omega))
        · intro listed a_ W hun hG hO hp
          have h51 : (chosenR bx) (slotOf a_ 51) W := hp.1
          obtain ⟨A5, n5, c5, h51, hrow⟩ := h51
          refine wp_yields (v := .tuple #[.slice A5 n5 c5, .bool bx.isSome]) ?_ ⟨_, rfl, ⟨A5, n5, c5, rfl, hrow⟩, .inr (.inr (newer_refl _)), hG⟩
          simp [slotOf] at h51
          simp [execOp, go_sem, h51]
        · intro listed a_ W hun hG hO hp
          have h38 : (chosenR bx) (slotOf a_ 38) W := hp.1
          obtain ⟨A5, n5, c5, h38, hrow⟩ := h38
          refine wp_yields (v := .slice A5 n5 c5) ?_ ⟨_, rfl, ⟨A5, n5, c5, rfl, hrow⟩, .inr (.inr (newer_refl _)), hG⟩
          simp [slotOf] at h38
          simp [execOp, go_sem, h38]
        · intro listed a_ W hun hG hO hp
          have h38 : (chosenR bx) (slotOf a_ 38) W := hp.1
          obtain ⟨A5, n5, c5, h38, hrow⟩ := h38
          refine wp_yields (v := .bool bx.isSome) ?_ ⟨_, rfl, rfl, .inr (.inr (newer_refl _)), hG⟩
          simp [slotOf] at h38
          simp [execOp, go_sem, h38]
        · intro listed a_ W hun hG hO hp
          have h52 : (vCh1 bx) (slotOf a_ 52) W := hp.1
          obtain ⟨A5, n5, c5, h52, hrow⟩ := h52
          refine wp_yields (v := .slice A5 n5 c5) ?_ ⟨_, rfl, ⟨A5, n5, c5, rfl, hrow⟩, .inr (.inr (newer_refl _)), hG⟩
          simp [slotOf] at h52
          simp [execOp, go_sem, h52]
      · intro W hG
        rintro _ rfl _ rfl _ rfl _ rfl _ rfl _ rfl _ - _ - _ rfl _ rfl _ rfl _ rfl _ ⟨A12, n12, c12, rfl, -⟩ _ ⟨A13, n13, c13, rfl, -⟩ _ ⟨A7, n7, c7, rfl, -⟩ _ rfl _ ⟨A5, n5, c5, rfl, hrow⟩
        change wpList _ _ _ _ _ _
        simp only [Act.put, List.setIfInBounds_toArray, List.set_cons_zero, List.set_cons_succ, List.drop_succ_cons, List.drop_zero]
        have HX := Lib.hid (And.intro (HM.out.1.grown hG.1 (own_ge HM.out.2.1)) (And.intro hG.2 (grown_trans' HM.out.2.2 hG.1)))
        have HRW := Lib.hid hrow
        clear hG hrow cab chb cg hnB e48 e50
        have HNX : Hid (chooseD f ag l j mm = bx.orElse fun _ => chooseD f ag l (j + 1) mm) := Lib.hid (by rw [HMM.out, HBX.out]; exact choose_next HA.out)
        clear HBX
        cases bx with
        | none =>
          have hno : (none : Option (List Int)).isSome = false := rfl
          rw [hno]
          clear hno
          go_wp2_with fail
          exact ⟨⟨j + 1, by omega, by omega, by go_num, HX.out.1, HX.out.2.1, HX.out.2.2, HCH.out.trans HNX.out⟩, by (simp only [intOf]; omega)⟩
        | some x =>
          have hno : (some x).isSome = true := rfl
          rw [hno]
          clear hno
          go_wp2_with fail
          go_ret2
          refine ⟨⟨_, rfl, ?_⟩, HX.out.2.1, HX.out.2.2⟩
          rw [HCH.out, HNX.out]
          exact ⟨A5, n5, c5, rfl, fun y hy => HRW.out y hy⟩
    · obtain rfl : j = ag.length := by omega
      have hjn : ¬ ((ag.length : Int) < ag.length) := by omega
      go_wp2_with fail
      go_ret2
      refine ⟨⟨_, rfl, ?_⟩, HM.out.2.1, HM.out.2.2⟩
      rw [HCH.out, HMM.out, choose_end]
      exact ⟨none, 0, 0, rfl, fun y hy => by cases hy⟩
theorem choose_any (hf : FaultOk p.pj) (hpc : p.ps.length ≤ p.pc) (hag : ∀ v ∈ ag, 0 ≤ v ∧ v < p.vs.length) (hal : ag.length ≤ 8) : ∀ m, ChC p pb ab fb ag G gc B m
  | 0 => choose_leaf hf hpc
  | m + 1 => choose_step hag hal (choose_any hf hpc hag hal m)
end


end Go.Proofs.Ytpnpnfjhjjdmgaa
