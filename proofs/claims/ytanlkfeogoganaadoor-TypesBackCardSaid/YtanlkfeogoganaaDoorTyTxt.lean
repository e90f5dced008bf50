/- The text of a type: plain functions, and how long it is. -/
import Derived.Test.YtanlkfeogoganaaDoorTyFun
import Derived.Lib.Join
import Derived.Lib.ItoaLen
namespace Go.Lir
set_option linter.unusedVariables false
mutual
/-- Text -/
def Ty.txt : Ty → List UInt8
  | .mk k r l => if k = 2 then [104, 97, 110, 100, 108, 101, 32] ++ Lib.itoa r else if k = 4 then [97, 114, 114, 97, 121, 32] ++ Lib.itoa r else if k = 3 then [116, 117, 112, 108, 101, 32] ++ Lib.itoa r ++ [32, 40] ++ Lib.join (Tys.txts l) [44, 32] ++ [41] else [105, 110, 116]
def Tys.txts : List Ty → List (List UInt8)
  | [] => []
  | x :: l => x.txt :: Tys.txts l
end
mutual
def Ty.nodes : Ty → Nat
  | .mk _ _ l => 1 + Tys.nodes l
def Tys.nodes : List Ty → Nat
  | [] => 0
  | x :: l => x.nodes + Tys.nodes l
end
theorem Tys.txts_map : ∀ (l : List Ty), Tys.txts l = l.map Ty.txt
  | [] => by rw [Tys.txts]; rfl
  | x :: l => by rw [Tys.txts, Tys.txts_map l]; rfl
mutual
theorem Ty.size_nodes : ∀ (t : Ty) {n : Int}, 0 ≤ t.size n → t.size n = n - t.nodes
  | .mk k r l, n, h => by
    rw [Ty.size] at h ⊢
    rw [Tys.size_nodes l h, Ty.nodes]
    omega
theorem Tys.size_nodes : ∀ (l : List Ty) {n : Int}, 0 ≤ Tys.size l n → Tys.size l n = n - Tys.nodes l
  | [], n, h => by rw [Tys.size, Tys.nodes]; omega
  | x :: l, n, h => by
    rw [Tys.size] at h ⊢
    by_cases hn : 0 ≤ n
    · rw [if_pos hn] at h ⊢
      have hx : 0 ≤ x.size n := by
        rcases Int.lt_or_le (x.size n) 0 with h1 | h1
        · rw [Tys.size_neg l h1] at h; omega
        · exact h1
      rw [Tys.size_nodes l h, Ty.size_nodes x hx, Tys.nodes]
      omega
    · rw [if_neg hn] at h; omega
end
theorem Tys.nodes_mem : ∀ {l : List Ty} {x : Ty}, x ∈ l → x.nodes ≤ Tys.nodes l
  | y :: l, x, h => by
    rw [Tys.nodes]
    rcases List.mem_cons.1 h with rfl | h
    · omega
    · have := Tys.nodes_mem h; omega
theorem Ty.nodes_pos (t : Ty) : 1 ≤ t.nodes := by obtain ⟨k, r, l⟩ := t; rw [Ty.nodes]; omega
theorem Tys.nodes_len : ∀ (l : List Ty), l.length ≤ Tys.nodes l
  | [] => by simp
  | x :: l => by have := Tys.nodes_len l; have := x.nodes_pos; rw [Tys.nodes, List.length_cons]; omega
mutual
theorem Ty.txt_len : ∀ (t : Ty), t.InR → t.txt.length + 2 ≤ 60 * t.nodes
  | .mk k r l, h => by
    obtain ⟨_, ⟨h1, h2⟩, hl⟩ := h.parts
    have hi := Lib.itoa_length_le r h1 h2
    have hj := Tys.join_len l hl
    rw [Ty.txt, Ty.nodes]
    split
    · simp only [List.length_append, List.length_cons, List.length_nil]; omega
    · split
      · simp only [List.length_append, List.length_cons, List.length_nil]; omega
      · split
        · simp only [List.length_append, List.length_cons, List.length_nil]; omega
        · simp only [List.length_cons, List.length_nil]; omega
theorem Tys.join_len : ∀ (l : List Ty), (∀ x ∈ l, x.InR) → (Lib.join (Tys.txts l) [44, 32]).length ≤ 60 * Tys.nodes l
  | [], _ => by rw [Tys.txts, Lib.join_nil]; simp
  | x :: l, h => by
    have h1 := Ty.txt_len x (h x (List.mem_cons_self ..))
    have h2 := Tys.tail_len l fun y hy => h y (List.mem_cons_of_mem _ hy)
    rw [Tys.txts, Lib.join_cons, List.length_append, Tys.nodes]
    omega
theorem Tys.tail_len : ∀ (l : List Ty), (∀ x ∈ l, x.InR) → (Lib.joinTail [44, 32] (Tys.txts l)).length ≤ 60 * Tys.nodes l
  | [], _ => by rw [Tys.txts]; simp [Lib.joinTail]
  | x :: l, h => by
    have h1 := Ty.txt_len x (h x (List.mem_cons_self ..))
    have h2 := Tys.tail_len l fun y hy => h y (List.mem_cons_of_mem _ hy)
    rw [Tys.txts, Tys.nodes]
    simp only [Lib.joinTail, List.map_cons, List.flatten_cons, List.length_append, List.length_cons, List.length_nil] at h2 ⊢
    omega
end
end Go.Lir
