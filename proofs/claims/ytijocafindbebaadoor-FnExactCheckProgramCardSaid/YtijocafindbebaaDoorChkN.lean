/- Checking nested statements: the plain answers; the reference's l20Measure inside. -/
import Derived.Test.YtijocafindbebaaDoorChkS
import Derived.Test.YtijocafindbebaaDoorToksD
namespace Go.Proofs.YtijocafindbebaaDoor
open Go.RowKit
set_option linter.unusedVariables false
def arg0 (h : SH) : ByteArray := h.args.getD 0 ⟨#[]⟩
theorem arg0_of {h : SH} (hl : 0 < h.args.length) : h.args[0]? = some (arg0 h) := by
  unfold arg0
  rw [List.getD_eq_getElem?_getD, List.getElem?_eq_getElem hl]
  rfl
/-- What is known in a statement's body, and what is wrong with the statement itself. -/
def stepN (h : SH) (names held : List ByteArray) : Bad × (List ByteArray × List ByteArray) :=
  if h.k = 1 then (gateBad names held h.args h.word, (names, held))
  else if h.k = 6 then ((6, arg0 h), (names, held))
  else if h.k = 7 then ((6, arg0 h), (names, held))
  else if h.k = 4 then (argBad names held (arg0 h), (names, held ++ [arg0 h]))
  else if h.k = 5 then (if hasS names (arg0 h) = true then ((1, arg0 h), (names, held)) else if names.length = 4 then ((5, arg0 h), (names, held)) else (bad0, (names ++ [arg0 h], held)))
  else (bad0, (names, held))
def oneN (h : SH) (body : List ByteArray → List ByteArray → Bad) (names held : List ByteArray) : Bad :=
  if (stepN h names held).1.1 = 0 then body (stepN h names held).2.1 (stepN h names held).2.2 else (stepN h names held).1
def firstB : List Bad → Bad
  | [] => bad0
  | c :: r => if c.1 = 0 then firstB r else c
def chkN : (d : Nat) → List (Tr d) → List ByteArray → List ByteArray → Bad
  | 0, _, _, _ => bad0
  | d + 1, l, names, held => firstB (l.map fun s => oneN (hdT s) (chkN d (bdT s)) names held)
theorem chkN_nil (d : Nat) (names held : List ByteArray) : chkN d [] names held = bad0 := by cases d <;> rfl
theorem firstB_take {L : List Bad} {t : Nat} {c : Bad} (h : L[t]? = some c) (h0 : firstB (L.take t) = bad0) (hz : ∀ x ∈ L.take t, x.1 = 0) (hc : c.1 ≠ 0) : firstB L = c := by
  induction L generalizing t with
  | nil => simp at h
  | cons x L ih =>
    cases t with
    | zero =>
      simp at h
      subst h
      rw [firstB, if_neg hc]
    | succ t =>
      have hx := hz x (by simp)
      rw [firstB, if_pos hx]
      rw [List.take_succ_cons, firstB, if_pos hx] at h0
      exact ih (by simpa using h) h0 (fun y hy => hz y (by simp [hy]))
theorem firstB_zero {L : List Bad} (hz : ∀ x ∈ L, x.1 = 0) : firstB L = bad0 := by
  induction L with
  | nil => rfl
  | cons x L ih => rw [firstB, if_pos (hz x (by simp)), ih (fun y hy => hz y (by simp [hy]))]
theorem oneN_z {h : SH} {body : List ByteArray → List ByteArray → Bad} {names held : List ByteArray} {p : List ByteArray × List ByteArray} (hs : stepN h names held = (bad0, p)) : oneN h body names held = body p.1 p.2 := by rw [oneN, hs, if_pos (show (bad0, p).1.1 = 0 from rfl)]
theorem oneN_b {h : SH} {body : List ByteArray → List ByteArray → Bad} {names held : List ByteArray} {c : Bad} {p : List ByteArray × List ByteArray} (hs : stepN h names held = (c, p)) (hc : c.1 ≠ 0) : oneN h body names held = c := by rw [oneN, hs, if_neg hc]
/-- A gate has no body. -/
theorem oneN_gate {d : Nat} {h : SH} {bd : List (Tr d)} {names held : List ByteArray} (hk : h.k = 1) (hb : bd = []) : oneN h (chkN d bd) names held = gateBad names held h.args h.word := by
  subst hb
  have hs : stepN h names held = (gateBad names held h.args h.word, (names, held)) := by rw [stepN, if_pos hk]
  rw [oneN, hs, chkN_nil]
  split
  · rename_i e
    unfold gateBad at e ⊢
    split at e
    · rename_i h1
      rw [if_pos h1]
      split at e
      · rename_i h2; rw [if_pos h2]
      · exact absurd e (by simp)
    · rename_i h1
      exact absurd e h1
  · rfl
theorem valid_gate {d : Nat} {h : SH} {bd : List (Tr d)} (hv : vOne d (validT d) h bd = true) (hk : hasB h.k = false) : bd = [] := by
  unfold vOne headV at hv
  simp only [Bool.and_eq_true] at hv
  obtain ⟨⟨_, _, _, _, h5, _⟩, _⟩ := hv
  have := of_decide_eq_true h5
  rcases this with h | h
  · rw [hk] at h; cases h
  · exact List.eq_nil_of_length_eq_zero h
theorem valid_args {d : Nat} {h : SH} {bd : List (Tr d)} (hv : vOne d (validT d) h bd = true) : h.args.length = nargs h.k h.word := by
  unfold vOne headV at hv
  simp only [Bool.and_eq_true] at hv
  exact of_decide_eq_true hv.1.2.1
set_option maxRecDepth 100000 in
set_option maxHeartbeats 2000000 in
theorem l20Measure_in (word : ByteArray) (args : List ByteArray) (a : ByteArray) (count : Int) (Aa : Option Addr) (m ca : Nat) (Ac : Option Addr) (nc cc E : Nat) (An Ah Ab : Option Addr) (nn cn nh ch nb cb : Nat) (w : World)
    (hx : w.heap[E]? = some (.cells #[.slice An nn cn, .slice Ah nh ch, .bool true, .slice Ab nb cb] 97 (0, 0))) (hra : Rd w 1 Aa m (strs args)) (ha : args[0]? = some a) (hm : 0 < m) (hm2 : m ≤ 1048576) :
    Calls Tryd.prog 113 #[.agg #[.int .i64 6, .string word, .slice Aa m ca, .int .i64 count, .slice Ac nc cc], .pointer (some ⟨E, 0, none⟩)] w (RetBadA (6, a) w) := by
  obtain ⟨b, off, rfl, hbl, hc⟩ := hra.2 hm
  have r0 := hc 0 _ (strs_at ha)
  rw [Nat.add_zero] at r0
  obtain ⟨q0, q1, q2, q3⟩ := boxcells4' (lay := Below.refl _ _) hx
  have hEl := lt_of_block hx
  have hm3 : (0 : Int) < (m : Int) := by omega
  clear hc hra hx ha
  go_enter Tryd.func113, Tryd.ntmps113
  go_wp2_with fail
  exact bodyPost_ret (v := .agg #[.int .i64 6, .string a]) (by simp [results, Tryd.results113, go_sem]) rfl ⟨rfl, (by repeat (first | exact Below.refl _ _ | assumption | (refine Below.trans ?_ (Below.mono (by assumption) (by first | omega | (simp; done) | (simp; omega)))) | (with_reducible refine Below.drew ?_) | (with_reducible refine Below.alloc ?_ (by first | omega | (simp; done) | (simp; omega)) _) | (with_reducible refine Below.setCell ?_ (by first | omega | (simp; done) | (simp; omega)) _))), (by first | omega | (simp; done) | (simp; omega))⟩
end Go.Proofs.YtijocafindbebaaDoor
