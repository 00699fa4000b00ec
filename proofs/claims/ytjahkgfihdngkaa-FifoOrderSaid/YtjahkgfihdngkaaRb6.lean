/- This text of a proof shows: how the nodes of a tree stand in the cells of an array. -/
import Derived.Test.YtjahkgfihdngkaaRb5
import Derived.Test.YtjahkgfihdngkaaEvF
set_option linter.unusedVariables false
set_option linter.unusedSimpArgs false
set_option linter.constructorNameAsVariable false
namespace Go.Proofs.Ytjahkgfihdngkaa.Ev.Rb
open Go Go.Proofs.Ytjahkgfihdngkaa.Ev
def Nd.enc (x : Nd) : List Val := [.i .u64 x.e.1, .i .u64 x.e.2.1, .i .i64 x.e.2.2, .i .i64 (x.k0 : Nat), .i .i64 (x.k1 : Nat), .i .i64 (x.up : Nat), .b x.red]
def encF (f : Nat → Nd) : Nat → List Val
  | 0 => []
  | n + 1 => encF f n ++ (f n).enc
theorem enc_length (x : Nd) : x.enc.length = 7 := rfl
theorem encF_length (f : Nat → Nd) : ∀ n, (encF f n).length = n * 7
  | 0 => rfl
  | n + 1 => by simp [encF, encF_length f n, enc_length]; omega
theorem encF_get (f : Nat → Nd) : ∀ (n : Nat) {i j : Nat}, i < n → j < 7 → (encF f n)[i * 7 + j]? = (f i).enc[j]?
  | 0, i, j, h, _ => by omega
  | n + 1, i, j, h, hj => by
    simp only [encF]
    by_cases e : i = n
    · subst e
      rw [List.getElem?_append_right (by rw [encF_length]; omega), encF_length, show i * 7 + j - i * 7 = j by omega]
    · rw [List.getElem?_append_left (by rw [encF_length]; omega), encF_get f n (by omega) hj]
theorem encF_congr {f g : Nat → Nd} : ∀ (n : Nat), (∀ i, i < n → g i = f i) → encF g n = encF f n
  | 0, _ => rfl
  | n + 1, h => by simp only [encF]; rw [encF_congr n (fun i hi => h i (by omega)), h n (by omega)]
theorem encF_set (f : Nat → Nd) {x : Nd} {v : Val} : ∀ (n : Nat) {i j : Nat}, i < n → j < 7 → (f i).enc.set j v = x.enc → (encF f n).set (i * 7 + j) v = encF (fupd f i x) n
  | 0, i, j, h, _, _ => by omega
  | n + 1, i, j, h, hj, hx => by
    simp only [encF]
    by_cases e : i = n
    · subst e
      rw [List.set_append_right _ _ (by rw [encF_length]; omega), encF_length, show i * 7 + j - i * 7 = j by omega, hx, fupd_same, encF_congr i fun k hk => fupd_ne (by omega)]
    · rw [List.set_append_left _ _ (by rw [encF_length]; omega), encF_set f n (by omega) hj hx, fupd_ne (by omega)]
theorem encF_ren (ι : Nat → Nat) (f : Nat → Nd) : ∀ n, renL ι (encF f n) = encF f n
  | 0 => rfl
  | n + 1 => by simp only [encF]; rw [renL_append, encF_ren ι f n]; rfl
theorem encF_wf (m : Nat) (f : Nat → Nd) : ∀ n, wfL m (encF f n) = true
  | 0 => rfl
  | n + 1 => by simp only [encF]; rw [wfL_append, encF_wf m f n]; rfl
def dv : Bool → Int
  | false => 0
  | true => 1
def dn : Bool → Nat
  | false => 0
  | true => 1
theorem dv_dn (d : Bool) : (dv d).toNat = dn d := by cases d <;> rfl
theorem dv_in (d : Bool) : 0 ≤ dv d ∧ dv d < 2 := by cases d <;> decide
theorem dv_0 (d : Bool) : 0 ≤ dv d := (dv_in d).1
theorem dv_2 (d : Bool) : dv d < 2 := (dv_in d).2
theorem dn_le (d : Bool) : dn d ≤ 1 := by cases d <;> decide
theorem dv_not (d : Bool) : IntKind.i64.wrap (1 - dv d) = dv (!d) := by cases d <;> decide
theorem dv_ne (d e : Bool) : (dv d != dv e) = (d != e) := by cases d <;> cases e <;> decide
theorem dv_f : dv false = 0 := rfl
theorem dv_t : dv true = 1 := rfl
theorem nat_toNat (n : Nat) : ((n : Nat) : Int).toNat = n := Int.toNat_natCast n
theorem nat_ge (n : Nat) : (0 : Int) ≤ (n : Nat) := Int.natCast_nonneg n
theorem wr_one (c : List Val) (o : Nat) (v : Val) : wr c o [v] = c.set o v := rfl
-- what is looked at
section
variable {f : Nat → Nd} {n i : Nat}
theorem get_at (h : i < n) : (encF f n)[i * 7]? = some (.i .u64 (f i).e.1) := by have := encF_get f n (j := 0) h (by omega); simpa [Nd.enc] using this
theorem get_sq (h : i < n) : (encF f n)[i * 7 + 1]? = some (.i .u64 (f i).e.2.1) := by rw [encF_get f n h (by omega)]; rfl
theorem get_v (h : i < n) : (encF f n)[i * 7 + 2]? = some (.i .i64 (f i).e.2.2) := by rw [encF_get f n h (by omega)]; rfl
theorem get_k0 (h : i < n) : (encF f n)[i * 7 + 3]? = some (.i .i64 ((f i).k0 : Nat)) := by rw [encF_get f n h (by omega)]; rfl
theorem get_k1 (h : i < n) : (encF f n)[i * 7 + 3 + 1]? = some (.i .i64 ((f i).k1 : Nat)) := by rw [show i * 7 + 3 + 1 = i * 7 + 4 by omega, encF_get f n h (by omega)]; rfl
theorem get_kd (d : Bool) (h : i < n) : (encF f n)[i * 7 + 3 + dn d]? = some (.i .i64 (kid f i d : Nat)) := by
  cases d
  · exact get_k0 h
  · exact get_k1 h
theorem get_up (h : i < n) : (encF f n)[i * 7 + 5]? = some (.i .i64 ((f i).up : Nat)) := by rw [encF_get f n h (by omega)]; rfl
theorem get_red (h : i < n) : (encF f n)[i * 7 + 6]? = some (.b (f i).red) := by rw [encF_get f n h (by omega)]; rfl
theorem key_in (h : i < n) : i * 7 + 2 ≤ (encF f n).length := by rw [encF_length]; omega
theorem get_key (h : i < n) : ((encF f n).drop (i * 7)).take 2 = [.i .u64 (f i).e.1, .i .u64 (f i).e.2.1] := by
  apply List.ext_getElem?
  intro j
  rw [List.getElem?_take]
  split
  · rename_i hj
    rw [List.getElem?_drop, encF_get f n h (by omega)]
    rcases j with _ | _ | j
    · rfl
    · rfl
    · omega
  · rw [List.getElem?_eq_none (by simp; omega)]
end
section
variable {s : Rb} {n i : Nat}
theorem set_up (v : Nat) (h : i < n) : (encF s.f n).set (i * 7 + 5) (.i .i64 (v : Nat)) = encF (setUp s i v).f n := encF_set _ _ h (by omega) rfl
theorem set_red (c : Bool) (h : i < n) : (encF s.f n).set (i * 7 + 6) (.b c) = encF (setRed s i c).f n := encF_set _ _ h (by omega) rfl
theorem set_kd (d : Bool) (v : Nat) (h : i < n) : (encF s.f n).set (i * 7 + 3 + dn d) (.i .i64 (v : Nat)) = encF (setK s d i v).f n := by
  cases d
  · exact encF_set _ _ h (by omega) rfl
  · exact encF_set (j := 4) _ _ h (by omega) rfl
theorem set_k0 (v : Nat) (h : i < n) : (encF s.f n).set (i * 7 + 3) (.i .i64 (v : Nat)) = encF (setK s false i v).f n := set_kd false v h
theorem set_k1 (v : Nat) (h : i < n) : (encF s.f n).set (i * 7 + 3 + 1) (.i .i64 (v : Nat)) = encF (setK s true i v).f n := set_kd true v h
theorem setK_root (d : Bool) (v : Nat) : (setK s d i v).root = s.root := rfl
theorem setUp_root (v : Nat) : (setUp s i v).root = s.root := rfl
theorem setRed_root (c : Bool) : (setRed s i c).root = s.root := rfl
end
/-- A tree's state: the nodes, how many there are, those that are free, what stands behind these. -/
structure TS where
  s : Rb
  len : Nat
  free : List Nat
  fo : Option (List Nat)
  many : Nat
  room : Nat
def nums (l : List Nat) : List Val := l.map fun x => .i .i64 (x : Nat)
def TS.fv (t : TS) (k : Nat) : Val := match t.fo with
  | none => .nils
  | some _ => .sl k 0 t.free.length 1
def TS.fobj (t : TS) : AObj := match t.fo with
  | none => .dead
  | some j => .rw (nums t.free ++ nums j)
/-- The tree's cells and objects: its array is the object a, what is free the object b. -/
def TS.cells (t : TS) (s : Rb) (a b : Nat) : List Val := [.sl a 0 t.len 7, t.fv b, .i .i64 (s.root : Nat), .i .i64 (t.many : Nat), .i .i64 (t.room : Nat)]
def tH (t : TS) (s : Rb) : Heap := [.rw (t.cells s 1 2), .rw (encF s.f t.len), t.fobj]
theorem nums_ren (ι : Nat → Nat) (l : List Nat) : renL ι (nums l) = nums l := by rw [renL_map]; simp [nums, Val.ren]
theorem nums_wf (m : Nat) : ∀ l : List Nat, wfL m (nums l) = true
  | [] => rfl
  | x :: l => by simpa [nums, wfL, Val.wf] using nums_wf m l
theorem fv_ren (ι : Nat → Nat) (t : TS) (k : Nat) : (t.fv k).ren ι = t.fv (ι k) := by unfold TS.fv; split <;> rfl
theorem fv_wf {m : Nat} (t : TS) {k : Nat} (h : k < m) : (t.fv k).wf m = true := by unfold TS.fv; split; rfl; simp [Val.wf, h]
theorem fobj_ren (ι : Nat → Nat) (t : TS) : t.fobj.ren ι = t.fobj := by unfold TS.fobj; split; rfl; simp [AObj.ren, renL_append, nums_ren]
theorem fobj_wf (m : Nat) (t : TS) : t.fobj.wf m = true := by unfold TS.fobj; split; rfl; simp [AObj.wf, wfL_append, nums_wf]
theorem nums_app (a b : List Nat) : nums (a ++ b) = nums a ++ nums b := by simp [nums]
theorem nums_snoc (l : List Nat) (x : Nat) : nums l ++ [.i .i64 (x : Nat)] = nums (l ++ [x]) := by simp [nums]
theorem nums_one (x : Nat) : nums [x] = [.i .i64 (x : Nat)] := rfl
theorem nums_length (a : List Nat) : (nums a).length = a.length := by simp [nums]
theorem order_len : ∀ {n : Nat} {f : Nat → Nd} {x : Nat} {todo out l : List Nat}, orderF n f x todo out = some l → out.length + todo.length + (if x = 0 then 0 else 1) ≤ l.length
  | 0, _, _, _, _, _, h => by cases h
  | n + 1, f, x, todo, out, l, h => by
    simp only [orderF] at h
    by_cases hx : x = 0
    · rw [if_neg (by simpa using hx)] at h
      rw [if_pos hx]
      split at h
      · rename_i e; cases h
        have : todo = [] := by simpa using e
        simp [this]
      · rename_i y e
        have := order_len h
        have hne : todo ≠ [] := by rintro rfl; cases e
        have hp := List.length_pos_iff.2 hne
        simp at this
        omega
    · rw [if_pos hx] at h
      rw [if_neg hx]
      have := order_len h
      simp at this
      omega
/-- What a call leaves of a tree. -/
def Lv (t : TS) (s : Rb) (r v : Val) (H : Heap) : Prop := v = r ∧ H = tH t s
end Go.Proofs.Ytjahkgfihdngkaa.Ev.Rb
