/- sure.Uses: the walk through a refutation gathers the Ids. -/
import Derived.Test.YtpjcnkajimgagaaGreatMUses1
set_option linter.unusedSimpArgs false
set_option linter.unusedVariables false
namespace Go.Proofs.YtpjcnkajimgagaaGreat
open Go.RowKit
attribute [local go_sem] Oper.semAt_some

/-- what stands in the list after some leaves -/
def EvJ (c : Cs) (n ob S N : Nat) (ev : List (Dec × Br)) (W : World) : Prop := S ≤ N ∧ UJ c n ob N ev W
theorem EvJ.eq {c : Cs} {n ob S N : Nat} (h : S ≤ N) : EvJ c n ob S N = UJ c n ob N := by
 funext ev W; unfold EvJ; simp [h]
theorem EvJ.blk {c : Cs} {n ob S N : Nat} {ev : List (Dec × Br)} {W : World} (h : EvJ c n ob S N ev W) {k : Nat} (hk : EvBlk ob W k) : (k = ob ∨ N ≤ k) ∧ k < W.heap.size := by
 obtain ⟨_, ⟨v, hv⟩, _⟩ := h
 exact hv.blk hk
theorem EvV.keep {N ob S : Nat} {A B : World} {v : Value} {l : List Int} (h : EvV N ob A v l) (ho : ob < S) (hk : Keep (fun k => ¬ (S ≤ k ∧ k < N)) A B) : EvV N ob B v l :=
 ⟨hk.heap (by omega) h.1, ownsRow_keep h.2 hk (fun k hk => by omega)⟩
theorem EvJ.keep {c : Cs} {n ob S N : Nat} {ev : List (Dec × Br)} {A B : World} (h : EvJ c n ob S N ev A) (ho : ob < S) (hk : Keep (fun k => ¬ (S ≤ k ∧ k < N)) A B) : EvJ c n ob S N ev B := by
 obtain ⟨h1, ⟨v, hv⟩, h3, h4⟩ := h
 exact ⟨h1, ⟨v, hv.keep ho hk⟩, h3, Nat.le_trans h4 hk.size⟩
theorem EvJ.blk_back {c : Cs} {n ob S N : Nat} {ev : List (Dec × Br)} {A B : World} (h : EvJ c n ob S N ev A) (ho : ob < S) (hk : Keep (fun k => ¬ (S ≤ k ∧ k < N)) A B) {k : Nat} (hb : EvBlk ob B k) : EvBlk ob A k := by
 obtain ⟨h1, ⟨v, hv⟩, h3, h4⟩ := h
 rcases hb with hb | ⟨u, hu, he⟩
 ·exact .inl hb
 ·rw [box_eq hu (hv.keep ho hk).1] at he
  exact .inr ⟨v, hv.1, he⟩
def UWalk (c : Cs) (n ob : Nat) (o : Option (List (Dec × Br))) (w : World) (e : Ending) (w' : World) : Prop :=
 Keep (fun k => k < w.heap.size ∧ k ≠ ob) w w' ∧ match o with
  | some ev => e = .returned (.bool true) ∧ ∃ N v, w.heap.size ≤ N ∧ EvV N ob w' v (evS c n ev)
  | none => e = .returned (.bool false)
set_option maxRecDepth 100000 in
set_option maxHeartbeats 1000000 in
theorem walk_uses (c : Cs) (n : Nat) (hn : c.parts.length = n) (hn8 : n ≤ 8) (hlim : 0 ≤ c.limit ∧ c.limit ≤ 40) (pa : Option Addr) (pc : Nat) (bb : Nat) (w0 : World) (hparts : PartsAt w0 pa c.parts) (ob : Nat) (w : World) (hob : w0.heap.size ≤ ob) (hne : ob ≠ bb) (hbx : Box w ob #[.slice none 0 0] 27) (hb0 : w0.heap.size ≤ bb)
  (l : List Br) (d : Dec) (hll : l.length ≤ 2000 ∨ 20000 < l.length ∧ l.length ≤ 1000000) (hsm : ∀ x ∈ l, x.Small) (hd : ∀ a b, d a b ≤ 3) (hold : Below w0.heap.size w0 w) (hben : Box w bb (csCells c pa pc) 88) (ra : Option Addr) (rc : Nat) (hbr : BrsAt w0 ra l) (hrc : l.length ≤ rc) :
  Calls Tryz.prog 51 #[.pointer (some ⟨bb, 0, none⟩), .agg (decCells d), .slice ra l.length rc, .func (.func 53) #[] #[.pointer (some ⟨ob, 0, none⟩)]] w (UWalk c n ob (refutedB c n d l) w) := by
 rcases hll with hll | hll
 ·have ho := hbx.lt
  have hbl := hben.lt
  refine (U.walk_any c n hn hn8 hlim pa pc bb w0 hparts 53 #[.pointer (some ⟨ob, 0, none⟩)] (EvBlk ob) (fun k => k = ob) (EvJ c n ob w.heap.size) w 2000
   (fun N hN => by rw [EvJ.eq hN]; exact uses1_at c n hn hn8 hlim pa pc bb w0 hparts ob N 2000 ⟨hob, by omega⟩ (by omega))
   (fun N s A hj k hk => ?_) (fun N s A B hj hk k hz => hj.blk_back ho hk hz) (fun N s A B hj hk => hj.keep ho hk) l d hll (by omega) hsm hd hold hben
   (fun N W hN hW hb => ⟨hN, ⟨_, hbx.below' hb, ownsRow_nil _ _ _ _⟩, by simp, hW⟩) ra rc hbr hrc).mono ?_
  ·have h1 := hj.blk hk
   have h2 := hj.1
   have h3 := hold.size
   refine ⟨⟨by omega, by omega, h1.2⟩, ?_⟩
   rcases h1.1 with h | h
   ·exact .inl ⟨by omega, h⟩
   ·exact .inr h
  ·rintro e w' ⟨hk, hm⟩
   refine ⟨hk, ?_⟩
   cases hr : refutedB c n d l with
   | none => rw [hr] at hm; exact hm
   | some es => 
    rw [hr] at hm
    obtain ⟨he, N, hN, ⟨v, hv⟩, _⟩ := hm
    exact ⟨he, N, v, hN, hv⟩
 ·have hmf := run_mf Tryz.prog
  have HRR := Lib.hid (refuted_long (c := c) (n := n) (d := d) hll.1)
  have hli : (20000 : Int) < l.length := by omega
  clear hll hbx
  go_enter Tryz.func51, Tryz.ntmps51
  go_wp2_with fail
  go_ret
  unfold UWalk
  rw [HRR.out]
  exact ⟨Keep.of_below (B := w.heap.size) (by go_grown) (fun i hi _ => hi.1), rfl⟩
end Go.Proofs.YtpjcnkajimgagaaGreat
