/- The plain law of the sums of bytes: each step goes back; no condition but those typed. -/
import Derived.Test.YtfbpbcaonlijnaaSumsRef
namespace Go.Proofs.Ytfbpbcaonlijnaa
set_option linter.unusedVariables false

theorem xor_back (a b : Nat) : (a ^^^ b) ^^^ b = a := by rw [Nat.xor_assoc, Nat.xor_self, Nat.xor_zero]
theorem xor_cancel {a b c : Nat} (h : a ^^^ b = a ^^^ c) : b = c := by
  have e : ∀ x, a ^^^ (a ^^^ x) = x := fun x => by rw [← Nat.xor_assoc, Nat.xor_self, Nat.zero_xor]
  rw [← e b, ← e c, h]

/-! ### over any modulus m, a factor k and what undoes it -/
namespace G
def step (m k : Nat) (s : Nat) (c : UInt8) : Nat := (s ^^^ c.toNat) * k % m
def back (m b : Nat) (s : Nat) (c : UInt8) : Nat := (s * b % m) ^^^ c.toNat
def on (m k : Nat) (s : Nat) (l : List UInt8) : Nat := l.foldl (step m k) s
def backL (m b : Nat) (s : Nat) (l : List UInt8) : Nat := l.foldr (fun c s => back m b s c) s
/-- what is asked of the numbers. -/
structure Ok (m k b : Nat) : Prop where
  pos : 0 < m
  one : k * b % m = 1 % m
  xor : ∀ a, a < m → ∀ c : UInt8, a ^^^ c.toNat < m
variable {m k b : Nat}
theorem mul_back (h : Ok m k b) (x : Nat) (hx : x < m) : (x * k % m) * b % m = x := by
  rw [Nat.mod_mul_mod, Nat.mul_assoc, Nat.mul_mod, h.one, ← Nat.mul_mod, Nat.mul_one, Nat.mod_eq_of_lt hx]
theorem mul_forth (h : Ok m k b) (x : Nat) (hx : x < m) : (x * b % m) * k % m = x := by
  rw [Nat.mod_mul_mod, Nat.mul_assoc, Nat.mul_comm b k, Nat.mul_mod, h.one, ← Nat.mul_mod, Nat.mul_one, Nat.mod_eq_of_lt hx]
theorem step_lt (h : Ok m k b) (s : Nat) (c : UInt8) : step m k s c < m := Nat.mod_lt _ h.pos
theorem back_lt (h : Ok m k b) (s : Nat) (c : UInt8) : back m b s c < m := h.xor _ (Nat.mod_lt _ h.pos) c
theorem back_step (h : Ok m k b) (s : Nat) (c : UInt8) (hs : s < m) : back m b (step m k s c) c = s := by
  unfold back step
  rw [mul_back h _ (h.xor s hs c), xor_back]
theorem step_back (h : Ok m k b) (s : Nat) (c : UInt8) (hs : s < m) : step m k (back m b s c) c = s := by
  unfold back step
  rw [xor_back, mul_forth h _ hs]
theorem backL_cons (s : Nat) (c : UInt8) (l : List UInt8) : backL m b s (c :: l) = back m b (backL m b s l) c := rfl
theorem on_cons (s : Nat) (c : UInt8) (l : List UInt8) : on m k s (c :: l) = on m k (step m k s c) l := rfl
theorem on_lt (h : Ok m k b) (l : List UInt8) : ∀ s, s < m → on m k s l < m := by
  induction l with
  | nil => intro s hs; exact hs
  | cons c l ih => intro s hs; rw [on_cons]; exact ih _ (step_lt h s c)
theorem backL_lt (h : Ok m k b) (s : Nat) (l : List UInt8) (hs : s < m) : backL m b s l < m := by
  cases l with
  | nil => exact hs
  | cons c l => rw [backL_cons]; exact back_lt h _ _
theorem backL_on (h : Ok m k b) (l : List UInt8) : ∀ n, n < m → backL m b (on m k n l) l = n := by
  induction l with
  | nil => intro n _; rfl
  | cons c l ih => intro n hn; rw [backL_cons, on_cons, ih _ (step_lt h n c), back_step h n c hn]
theorem on_backL (h : Ok m k b) (l : List UInt8) : ∀ n, n < m → on m k (backL m b n l) l = n := by
  induction l with
  | nil => intro n _; rfl
  | cons c l ih => intro n hn; rw [backL_cons, on_cons, step_back h _ c (backL_lt h n l hn), ih n hn]
theorem on_inj (h : Ok m k b) {x y : Nat} {l : List UInt8} (hx : x < m) (hy : y < m) (e : on m k x l = on m k y l) : x = y := by
  rw [← backL_on h l x hx, ← backL_on h l y hy, e]
theorem backL_iff (h : Ok m k b) (l : List UInt8) (n s : Nat) (hn : n < m) (hs : s < m) : backL m b s l = n ↔ on m k n l = s :=
  ⟨fun e => by rw [← e, on_backL h l s hs], fun e => by rw [← e, backL_on h l n hn]⟩
theorem backL_drop (s : Nat) (l : List UInt8) (i : Nat) (hi : i < l.length) : backL m b s (l.drop i) = back m b (backL m b s (l.drop (i + 1))) l[i] := by
  rw [List.drop_eq_getElem_cons hi, backL_cons]
theorem step_inj_byte (h : Ok m k b) {s : Nat} {c d : UInt8} (hs : s < m) (e : step m k s c = step m k s d) : c = d := by
  unfold step at e
  have h1 : (s ^^^ c.toNat) * k % m * b % m = (s ^^^ d.toNat) * k % m * b % m := by rw [e]
  rw [mul_back h _ (h.xor s hs c), mul_back h _ (h.xor s hs d)] at h1
  exact UInt8.toNat_inj.1 (xor_cancel h1)
theorem on_append (n : Nat) (x y : List UInt8) : on m k n (x ++ y) = on m k (on m k n x) y := List.foldl_append
theorem on_set (h : Ok m k b) (n : Nat) (hn : n < m) (l : List UInt8) (i : Nat) (hi : i < l.length) (c : UInt8) :
    on m k n (l.take i ++ [c] ++ l.drop (i + 1)) = on m k n l ↔ c = l[i] := by
  have e : on m k n l = on m k (step m k (on m k n (l.take i)) l[i]) (l.drop (i + 1)) := by
    conv => lhs; rw [← List.take_append_drop i l, List.drop_eq_getElem_cons hi, on_append, on_cons]
  have e2 : ∀ x, on m k x [c] = step m k x c := fun _ => rfl
  rw [e, on_append, on_append, e2]
  constructor
  · intro h0
    exact step_inj_byte h (on_lt h _ n hn) (on_inj h (step_lt h _ _) (step_lt h _ _) h0)
  · intro h0; rw [h0]
theorem step_zero (h : Ok m k b) (s : Nat) (hs : s < m) : step m k s 0 = 0 ↔ s = 0 := by
  have z : step m k 0 0 = 0 := by unfold step; simp
  constructor
  · intro h0
    have e := back_step h s 0 hs
    rw [h0] at e
    rw [← e]; unfold back; simp
  · intro h0; rw [h0, z]
theorem on_zeros (h : Ok m k b) (j : Nat) : ∀ s, s < m → (on m k s (List.replicate j 0) = 0 ↔ s = 0) := by
  induction j with
  | zero => intro s _; exact Iff.rfl
  | succ j ih => intro s hs; rw [List.replicate_succ, on_cons, ih _ (step_lt h s 0), step_zero h s hs]
/-- the lowest bits. -/
def low (k j : Nat) (s : Nat) (c : UInt8) : Nat := ((s ^^^ (c.toNat % 2 ^ j)) * (k % 2 ^ j)) % 2 ^ j
theorem low_step (j s : Nat) (c : UInt8) (hd : 2 ^ j ∣ m) : step m k s c % 2 ^ j = low k j (s % 2 ^ j) c := by
  unfold step low
  rw [Nat.mod_mod_of_dvd _ hd, Nat.mul_mod, Nat.xor_mod_two_pow]
theorem low_fold (j : Nat) (hd : 2 ^ j ∣ m) (l : List UInt8) : ∀ s, on m k s l % 2 ^ j = l.foldl (low k j) (s % 2 ^ j) := by
  induction l with
  | nil => intro s; rfl
  | cons c l ih => intro s; rw [on_cons, ih, low_step j s c hd]; rfl
end G

theorem okN : G.Ok 4294967296 16777619 899433627 where
  pos := by decide
  one := by decide
  xor := fun a h c => Nat.xor_lt_two_pow (n := 32) h (by have := c.toNat_lt; omega)
theorem stepN_G : stepN = G.step 4294967296 16777619 := by funext s c; unfold stepN G.step; rfl
theorem onN_G (s : Nat) (l : List UInt8) : onN s l = G.on 4294967296 16777619 s l := by unfold onN G.on; rw [stepN_G]

end Go.Proofs.Ytfbpbcaonlijnaa
