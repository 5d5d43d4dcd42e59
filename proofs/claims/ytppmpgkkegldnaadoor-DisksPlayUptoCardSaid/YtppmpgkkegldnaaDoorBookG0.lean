/- A list of bytes is grown; no program in sight but the types. -/
import Derived.Test.YtppmpgkkegldnaaDoorBookF
namespace Go.Proofs.YtppmpgkkegldnaaDoor
open Go.RowKit
set_option linter.unusedVariables false

def marks (k : Nat) (x : UInt8) : List Value := List.replicate k (.int .u8 x.toNat)
theorem marks_succ (k : Nat) (x : UInt8) : marks k x ++ [.int .u8 x.toNat] = marks (k + 1) x := by unfold marks; rw [← List.replicate_succ']
theorem HFill.of_take {w : World} {a : Option Addr} {n n2 c c2 : Nat} {cur : List Value} {x : UInt8} (h : S1 w a n c cur) (ht : cur.take n = marks n x) (hn : n2 ≤ n) : HFill w ⟨a, n2, c2⟩ x := fun i hi => by
  have hi' : i < n2 := hi
  rcases h with ⟨_, h0, _⟩ | ⟨g, rfl, hg, _, _, _⟩
  · omega
  · refine ⟨g, rfl, ?_⟩
    rw [cell_of_block hg]
    have e : (cur.take n)[i]? = (marks n x)[i]? := by rw [ht]
    rw [List.getElem?_take, if_pos (by omega)] at e
    have e2 : (marks n x)[i]? = some (.int .u8 x.toNat) := by unfold marks; rw [List.getElem?_replicate, if_pos (by omega)]
    rw [e2] at e
    simpa using e
theorem take_of_HFill {w : World} {h : Hd} {cur : List Value} {x : UInt8} (hs : S1 w h.a h.n h.c cur) (hf : HFill w h x) : cur.take h.n = marks h.n x := by
  rcases hs with ⟨_, h0, _, h1⟩ | ⟨g, ha, hg, h1, h2, _⟩
  · rw [h0]; rfl
  · apply List.ext_getElem?
    intro i
    by_cases hi : i < h.n
    · obtain ⟨g', e, hc⟩ := hf i hi
      rw [ha] at e
      cases e
      rw [cell_of_block hg] at hc
      rw [List.getElem?_take, if_pos hi]
      unfold marks
      rw [List.getElem?_replicate, if_pos hi]
      simpa using hc
    · rw [List.getElem?_eq_none (by simp; omega), List.getElem?_eq_none (by simp [marks]; omega)]

/-- A list l, grown by t marks, from the world W on. -/
def GrowSt (W w : World) (B : Nat) (l : Hd) (x : UInt8) (t : Nat) (a : Option Addr) (c : Nat) : Prop :=
  (∀ k, l.a = some ⟨k, 0, none⟩ → k < W.heap.size) ∧ Touch (fun k => l.a = some ⟨k, 0, none⟩) W w ∧ HOk w B l ∧ HFill w l x ∧ ∃ cur, S1 w a (l.n + t) c cur ∧ cur.take (l.n + t) = marks (l.n + t) x ∧
    ((a = l.a ∧ c = l.c) ∨ ∃ g, a = some ⟨g, 0, none⟩ ∧ W.heap.size ≤ g)
theorem GrowSt.start {W : World} {B : Nat} {l : Hd} {x : UInt8} (h : HOk W B l) (hf : HFill W l x) : GrowSt W W B l x 0 l.a l.c := by
  have h' := h
  obtain ⟨cur, s, _⟩ := h'
  refine ⟨fun k hk => ?_, Touch.refl _ _, h, hf, cur, s, take_of_HFill s hf, .inl ⟨rfl, rfl⟩⟩
  rcases s with ⟨s, _⟩ | ⟨g, s, hg, _⟩
  · rw [s] at hk; cases hk
  · rw [s] at hk; cases hk; exact lt_of_heap hg
theorem GrowSt.below {W w w' : World} {B : Nat} {l : Hd} {x : UInt8} {t : Nat} {a : Option Addr} {c : Nat} (h : GrowSt W w B l x t a c) (hb : Below w.heap.size w w') : GrowSt W w' B l x t a c := by
  obtain ⟨h0, h1, h2, h3, cur, h4, h5, h6⟩ := h
  have ht := Touch.of_below (S := fun _ => False) hb
  exact ⟨h0, h1.trans (Touch.of_below hb), h2.touch ht (fun _ _ => id), h3.below hb, cur, h4.touch ht (fun _ _ => id), h5, h6⟩
theorem GrowSt.step {W w w' : World} {B : Nat} {l : Hd} {x : UInt8} {t : Nat} {a a' : Option Addr} {c c' : Nat} {cur' : List Value} (h : GrowSt W w B l x t a c)
    (cur : List Value) (hs : S1 w a (l.n + t) c cur) (hs' : S1 w' a' (l.n + t + 1) c' cur') (ht' : cur'.take (l.n + t + 1) = cur.take (l.n + t) ++ [.int .u8 x.toNat])
    (hd : (a' = a ∧ c' = c ∧ l.n + t < c ∧ ∀ g, a = some ⟨g, 0, none⟩ → Touch (fun k => k = g) w w') ∨ (a' = some ⟨w.heap.size, 0, none⟩ ∧ Below w.heap.size w w')) : GrowSt W w' B l x (t + 1) a' c' := by
  obtain ⟨h0, h1, h2, h3, cur0, h4, h5, h6⟩ := h
  have hcc : cur.take (l.n + t) = cur0.take (l.n + t) := by
    rcases hs with ⟨e1, e2, _, e4⟩ | ⟨g, e1, hg, _⟩
    · rw [e2]; rfl
    · rcases h4 with ⟨f1, _⟩ | ⟨g', f1, hg', _⟩
      · rw [e1] at f1; cases f1
      · rw [e1] at f1; cases f1
        rw [hg] at hg'
        have := (Obj.cells.inj (Option.some.inj hg')).1
        have e : cur = cur0 := by simpa using this
        rw [e]
  have htk : cur'.take (l.n + (t + 1)) = marks (l.n + (t + 1)) x := by
    rw [show l.n + (t + 1) = l.n + t + 1 by omega, ht', hcc, h5, marks_succ]
  rcases hd with ⟨rfl, rfl, hlt, hT⟩ | ⟨rfl, hb⟩
  · rcases h6 with ⟨rfl, rfl⟩ | ⟨g, rfl, hg⟩
    · -- in the list's own block
      rcases hs' with ⟨_, e, _⟩ | ⟨g, ga, hgc, g1, g2, g3⟩
      · omega
      · have hTT := hT g ga
        refine ⟨h0, h1.trans (hTT.weaken (fun k _ hk => by rw [hk]; exact ga)), ?_, ?_, cur', .inr ⟨g, ga, hgc, g1, g2, g3⟩, htk, .inl ⟨rfl, rfl⟩⟩
        · obtain ⟨_, _, hB⟩ := h2
          exact ⟨cur', .inr ⟨g, ga, hgc, by omega, g2, g3⟩, hB⟩
        · exact HFill.of_take (c2 := l.c) (.inr ⟨g, ga, hgc, g1, g2, g3⟩) htk (by omega)
    · have hTT := hT g rfl
      have hlk : ∀ k, l.a = some ⟨k, 0, none⟩ → k ≠ g := fun k hk e => by have := h0 k hk; omega
      refine ⟨h0, h1.andThen hTT (fun k hk => .inr (by rw [hk]; exact hg)), h2.touch hTT (fun k hk e => hlk k hk e), fun i hi => ?_, cur', hs', htk, .inr ⟨g, rfl, hg⟩⟩
      obtain ⟨k, e, hc⟩ := h3 i hi
      exact ⟨k, e, hTT.cell hc (fun e2 => hlk k e e2)⟩
  · have ht := Touch.of_below (S := fun k => l.a = some ⟨k, 0, none⟩) hb
    refine ⟨h0, h1.trans ht, h2.touch (Touch.of_below (S := fun _ => False) hb) (fun _ _ => id), h3.below hb, cur', hs', htk, .inr ⟨_, rfl, h1.size⟩⟩

end Go.Proofs.YtppmpgkkegldnaaDoor
