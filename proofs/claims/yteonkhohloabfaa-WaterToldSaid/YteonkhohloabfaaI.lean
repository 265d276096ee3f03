/- The iterator over the days: after each day the ground on its way holds the next state. -/
import Derived.Test.YteonkhohloabfaaF
import Derived.Test.YteonkhohloabfaaG
import Derived.Test.YteonkhohloabfaaH
import Derived.RangeFuncBound
import Derived.Shelf.Abstract
import Derived.Shelf.RegionOpen
import Derived.OwnWalkIn
import Derived.TacticsInMore
import Derived.LoopNIn
import Derived.LoopIn
namespace Go.Proofs.Yteonkhohloabfaa
open Go.RowKit Go.Shelf

theorem OnWay.below {w w' : World} {b B : Nat} {s : Way} {f : Nat → Int} {snow left : Int} (h : OnWay w b s f snow left) (hb : Below B w w') (hB : b < B) : OnWay w' b s f snow left :=
  ⟨h.blk.below hb hB, h.cells.below (hb.mono (by omega)), h.days.below (hb.mono (by omega)), h.levels.below (hb.mono (by omega)), h.rain.below (hb.mono (by omega))⟩

/-- fall, on any day. -/
theorem fall_any (s : Way) (f : Nat → Int) (snow left : Int) (day b : Nat) (w : World) (h : OnWay w b s f snow left) (hd : day < s.days.length) (hr : s.rain.length = s.days.length) (ok : DayOk (dAt s.days day)) (m0 : 0 ≤ s.melt) (m1 : s.melt ≤ 50)
    (s0 : 0 ≤ snow) (s1 : snow ≤ 1000000000) (r0 : 0 ≤ iAt s.rain day) (r1 : iAt s.rain day ≤ 1000) :
    Calls Try.prog 87 #[.pointer (some ⟨b, 0, none⟩), .int .i64 day] w fun e w' => e = .returned (.int .i64 (downOf s.melt (dAt s.days day) (iAt s.rain day) snow)) ∧ w.grownBy w' (some b) ∧ OnWay w' b s f (snowOf s.melt (dAt s.days day) (iAt s.rain day) snow) left := by
  obtain ⟨d, hd'⟩ := get_of_lt hd
  obtain ⟨r, hr'⟩ := get_of_lt (l := s.rain) (k := day) (by omega)
  rw [dAt_of hd'] at ok ⊢
  rw [iAt_of hr'] at r0 r1 ⊢
  unfold downOf snowOf meltOf
  by_cases hw : d.warm ≤ 0
  · rw [if_pos hw, if_pos hw]
    exact fall_cold s f snow left day b d r w h hd' hr' hw s0 s1 r0 (by omega)
  · rw [if_neg hw, if_neg hw]
    have hm := melt_bd ok m0 m1 (by omega)
    exact fall_warm s f snow left day b d r w h hd' hr' (by omega) s0 s1 r0 (by omega) hm.1 (by omega)

attribute [local go_sem] Oper.semAt_some

set_option maxHeartbeats 1000000 in
theorem after1_in (n l c b : Nat) (s : Way) (x : St) (ok : WayOk s.l s.melt s.soak s.days s.rain x) (J : Nat → World → Prop) (Jx : World → Prop)
    (hJ : ∀ k W, J k W → W.cell? ⟨c, 0, none⟩ = some (.pointer (some ⟨b, 0, none⟩)) ∧ c ≠ b ∧ OnWay W b s (stAt s.l s.melt s.soak s.days s.rain x k).f (stAt s.l s.melt s.soak s.days s.rain x k).snow (stAt s.l s.melt s.soak s.days s.rain x k).left)
    (hY : ∀ k W W', k < s.days.length → J k W → W.grownBy W' (some b) → OnWay W' b s (stAt s.l s.melt s.soak s.days s.rain x (k + 1)).f (stAt s.l s.melt s.soak s.days s.rain x (k + 1)).snow (stAt s.l s.melt s.soak s.days s.rain x (k + 1)).left →
      YieldAt Fence.wide (n - 1) Try.prog l #[.int .i64 k, .int .i64 (downOf s.melt (dAt s.days k) (iAt s.rain k) (stAt s.l s.melt s.soak s.days s.rain x k).snow)] W' fun e W'' => (e = .returned (.bool true) ∧ J (k + 1) W'') ∨ (e = .returned (.bool false) ∧ Jx W''))
    (W : World) (h0 : J 0 W) :
    CallsIn Fence.wide n Try.prog 86 #[.func (.yield l) #[] #[], .pointer (some ⟨c, 0, none⟩)] W fun e W' => (∃ v, e = .returned v) ∧ (J s.days.length W' ∨ Jx W') := by
  have HJ := Lib.hid hJ
  have HY := Lib.hid hY
  have HO := Lib.hid ok
  clear hJ hY ok
  obtain ⟨hc0, hcb, hw0⟩ := HJ.out 0 W h0
  have c6 := hw0.blk.at 6 (v := .slice s.D s.days.length s.dp) rfl
  have hm := (HO.out).many
  obtain ⟨m, hmm⟩ : ∃ m, m = s.days.length := ⟨_, rfl⟩
  rw [← hmm] at c6 hm
  have HM := Lib.hid hmm
  clear hw0 hmm
  refine callsIn_of_wp Try.func86 rfl trivial ?_ rfl
  simp only [Try.ntmps86, List.size_toArray, List.length_cons, List.length_nil, Nat.reduceAdd, Nat.reduceSub, Array.replicate_succ, Array.replicate_zero, List.push_toArray, List.append_toArray, List.nil_append, List.cons_append]
  gi_wp2
  clear hc0 c6
  gi_loopw [3, 4, 10] (fun _ _ i wr => ∃ k : Nat, k ≤ m ∧ i = .int .i64 k ∧ J k wr) (fun _ _ i _ => m - (intOf i).toNat)
  case atStart => exact ⟨0, Nat.zero_le _, rfl, h0⟩
  case round =>
    obtain ⟨k, hk, rfl, hj⟩ := hrel
    obtain ⟨hc1, _, hw1⟩ := HJ.out k _ hj
    by_cases hlt : k < m
    · have hkd : k < s.days.length := by have := HM.out; omega
      have hok := stAt_ok HO.out k (by omega)
      have hrb := (HO.out).rs k hkd
      have hdb := down_bd ((HO.out).ds k hkd) (HO.out).melt0 (HO.out).melt1 hrb.1 hrb.2 hok.snow0
      have hsb := soaks_bd (HO.out).soak0 (HO.out).soak1 hdb.1
      have hf := fall_any s _ _ _ k b _ hw1 hkd (HO.out).rains ((HO.out).ds k hkd) (HO.out).melt0 (HO.out).melt1 hok.snow0 (by have := hok.snow1; omega) hrb.1 hrb.2
      have HF := Lib.hid hf
      have hp : ∀ W', OnWay W' b s (stAt s.l s.melt s.soak s.days s.rain x k).f (snowOf s.melt (dAt s.days k) (iAt s.rain k) (stAt s.l s.melt s.soak s.days s.rain x k).snow) (stAt s.l s.melt s.soak s.days s.rain x k).left →
        Calls Try.prog 88 #[.pointer (some ⟨b, 0, none⟩), .int .i64 (downOf s.melt (dAt s.days k) (iAt s.rain k) (stAt s.l s.melt s.soak s.days s.rain x k).snow)] W' fun e w' => e = .returned (.tuple #[]) ∧ W'.grownBy w' (some b) ∧ OnWay w' b s (stAt s.l s.melt s.soak s.days s.rain x (k + 1)).f (stAt s.l s.melt s.soak s.days s.rain x (k + 1)).snow (stAt s.l s.melt s.soak s.days s.rain x (k + 1)).left :=
        fun W' hW => pass_any s _ _ _ _ _ b W' hW (HO.out).cells hok.lv (HO.out).few hdb.1 (by omega) hsb.1 (by omega) rfl hsb.2.2.2
      have HP := Lib.hid hp
      have HK := Lib.hid hkd
      have HJK := Lib.hid hj
      clear hf hp hw1 hkd hok hrb hdb hsb hj
      gi_wp2_with fail
      refine ⟨trivial, fun h => (by cases h), (callsIn_wide.2 HF.out).mono ?_⟩
      rintro e w1 ⟨rfl, hg1, hw1⟩
      have hc2 : w1.cell? ⟨c, 0, none⟩ = some (.pointer (some ⟨b, 0, none⟩)) := (World.cell?_of_block (hg1.block c (World.block_lt_of_cell? _ _ hc1) (by simpa using hcb))).trans hc1
      gi_wp2_with fail
      refine ⟨trivial, fun h => (by cases h), (callsIn_wide.2 (HP.out _ hw1)).mono ?_⟩
      rintro e w2 ⟨rfl, hg2, hw2⟩
      clear hc2 hc1
      obtain ⟨fn, tmps, assign, body, hy, hR⟩ := HY.out k wr w2 HK.out HJK.out (grown_trans hg1 hg2) hw2
      clear hw1 hw2 hg1 hg2
      gi_wp2_with fail
      refine ⟨fun h => (by cases h), hR.mono ?_⟩
      clear hy hR
      rintro e w3 (⟨rfl, hj3⟩ | ⟨rfl, hjx⟩)
      · gi_wp2_with fail
        go_roundw
        case rel => exact ⟨k + 1, by omega, by go_num, hj3⟩
        case measure => simp [intOf]; omega
      · gi_wp2_with fail
        refine bodyPost_ret (results_none rfl _ _ _) rfl ?_
        exact ⟨⟨_, rfl⟩, .inr hjx⟩
    · have hkm : k = s.days.length := by have := HM.out; omega
      have HE := Lib.hid (hkm ▸ hj)
      clear hw1 hc1 hj hkm
      gi_wp2_with fail
      go_end0
      exact ⟨⟨_, rfl⟩, .inl HE.out⟩
end Go.Proofs.Yteonkhohloabfaa
