/- A finite map from numbers, and the law of a look after a set. -/
import GoSem.Core.Sem
namespace Go.Proofs.Ytijfafacddefhaa.Ab
noncomputable section

/-- a finite map from numbers, for the kernel -/
inductive Tree (α : Type) where
  | leaf
  | node (v : Option α) (l r : Tree α)

namespace Tree
variable {α : Type}
/-- by the recursors themselves: quicker for the kernel -/
def get (t : Tree α) : Nat → Option α :=
  Tree.rec (motive := fun _ => Nat → Option α) (fun _ => none)
    (fun v _ _ gl gr n => cond (Nat.beq n 0) v (cond (Nat.beq (Nat.mod n 2) 1) (gl (Nat.div n 2)) (gr (Nat.sub (Nat.div n 2) 1)))) t
theorem get_leaf (n : Nat) : (leaf : Tree α).get n = none := rfl
theorem get_node (v : Option α) (l r : Tree α) (n : Nat) : (node v l r).get n = cond (Nat.beq n 0) v (cond (Nat.beq (n % 2) 1) (l.get (n / 2)) (r.get (n / 2 - 1))) := rfl
def setF (f : Nat) : Tree α → Nat → α → Tree α :=
  Nat.rec (motive := fun _ => Tree α → Nat → α → Tree α) (fun t _ _ => t)
    (fun _ ih t n a => Tree.rec (motive := fun _ => Tree α)
      (cond (Nat.beq n 0) (node (some a) leaf leaf) (cond (Nat.beq (Nat.mod n 2) 1) (node none (ih leaf (Nat.div n 2) a) leaf) (node none leaf (ih leaf (Nat.sub (Nat.div n 2) 1) a))))
      (fun v l r _ _ => cond (Nat.beq n 0) (node (some a) l r) (cond (Nat.beq (Nat.mod n 2) 1) (node v (ih l (Nat.div n 2) a) r) (node v l (ih r (Nat.sub (Nat.div n 2) 1) a)))) t) f
theorem setF_zero (t : Tree α) (n : Nat) (a : α) : setF 0 t n a = t := rfl
theorem setF_leaf (f : Nat) (n : Nat) (a : α) : setF (f + 1) leaf n a = cond (Nat.beq n 0) (node (some a) leaf leaf) (cond (Nat.beq (n % 2) 1) (node none (setF f leaf (n / 2) a) leaf) (node none leaf (setF f leaf (n / 2 - 1) a))) := rfl
theorem setF_node (f : Nat) (v : Option α) (l r : Tree α) (n : Nat) (a : α) : setF (f + 1) (node v l r) n a = cond (Nat.beq n 0) (node (some a) l r) (cond (Nat.beq (n % 2) 1) (node v (setF f l (n / 2) a) r) (node v l (setF f r (n / 2 - 1) a))) := rfl
def set (t : Tree α) (n : Nat) (a : α) : Tree α := setF (Nat.log2 (n + 1) + 1) t n a

theorem get_setF : ∀ (f : Nat) (t : Tree α) (n : Nat) (a : α) (m : Nat), n + 1 < 2 ^ f → (setF f t n a).get m = if m = n then some a else t.get m
  | 0, t, n, a, m, h => by simp at h
  | f + 1, t, n, a, m, h => by
    have hp : 2 ^ (f + 1) = 2 * 2 ^ f := by rw [Nat.pow_succ]; omega
    rw [hp] at h
    generalize hq : 2 ^ f = q at h
    have ih := fun (t : Tree α) (n : Nat) (m : Nat) (hn : n + 1 < q) => get_setF f t n a m (by rw [hq]; exact hn)
    have key : ∀ (v : Option α) (l r : Tree α), (cond (Nat.beq n 0) (node (some a) l r) (cond (Nat.beq (n % 2) 1) (node v (setF f l (n / 2) a) r) (node v l (setF f r (n / 2 - 1) a)))).get m = if m = n then some a else (node v l r).get m := by
      intro v l r
      cases h0 : Nat.beq n 0 with
      | true =>
        have h0' : n = 0 := Nat.eq_of_beq_eq_true h0
        subst h0'
        simp only [cond_true, get_node]
        cases hm : Nat.beq m 0 with
        | true => have : m = 0 := Nat.eq_of_beq_eq_true hm; subst this; simp
        | false => have : m ≠ 0 := fun e => by subst e; simp at hm
                   simp [this]
      | false =>
        have h0' : n ≠ 0 := fun e => by subst e; simp at h0
        simp only [cond_false]
        cases h1 : Nat.beq (n % 2) 1 with
        | true =>
          have h1' : n % 2 = 1 := Nat.eq_of_beq_eq_true h1
          simp only [cond_true, get_node]
          cases hm : Nat.beq m 0 with
          | true => have : m = 0 := Nat.eq_of_beq_eq_true hm; subst this; simp; omega
          | false =>
            have hm0 : m ≠ 0 := fun e => by subst e; simp at hm
            simp only [cond_false]
            cases hm1 : Nat.beq (m % 2) 1 with
            | true =>
              have hm1' : m % 2 = 1 := Nat.eq_of_beq_eq_true hm1
              simp only [cond_true]
              rw [ih _ _ _ (by omega)]
              by_cases e : m = n
              · subst e; simp
              · rw [if_neg e, if_neg (by omega)]
            | false =>
              have hm1' : m % 2 ≠ 1 := fun e => by rw [e] at hm1; simp at hm1
              simp only [cond_false]; rw [if_neg (by intro e; subst e; exact hm1' h1')]
        | false =>
          have h1' : n % 2 ≠ 1 := fun e => by rw [e] at h1; simp at h1
          simp only [cond_false, get_node]
          cases hm : Nat.beq m 0 with
          | true => have : m = 0 := Nat.eq_of_beq_eq_true hm; subst this; simp; omega
          | false =>
            have hm0 : m ≠ 0 := fun e => by subst e; simp at hm
            simp only [cond_false]
            cases hm1 : Nat.beq (m % 2) 1 with
            | true =>
              have hm1' : m % 2 = 1 := Nat.eq_of_beq_eq_true hm1
              simp only [cond_true]
              rw [if_neg (by intro e; subst e; exact h1' hm1')]
            | false =>
              have hm1' : m % 2 ≠ 1 := fun e => by rw [e] at hm1; simp at hm1
              simp only [cond_false]
              rw [ih _ _ _ (by omega)]
              by_cases e : m = n
              · subst e; simp
              · rw [if_neg e, if_neg (by omega)]
    cases t with
    | leaf =>
      have hk := key none leaf leaf
      simp only [setF_leaf]
      rw [hk]
      split
      · rfl
      · rw [get_node, get_leaf]; cases Nat.beq m 0 <;> cases Nat.beq (m % 2) 1 <;> rfl
    | node v l r => simp only [setF_node]; exact key v l r

theorem get_set (t : Tree α) (n : Nat) (a : α) (m : Nat) : (t.set n a).get m = if m = n then some a else t.get m :=
  get_setF _ t n a m Nat.lt_log2_self
end Tree
end
end Go.Proofs.Ytijfafacddefhaa.Ab
