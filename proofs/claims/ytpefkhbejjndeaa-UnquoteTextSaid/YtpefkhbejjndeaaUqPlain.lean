/- A name and an equals sign put ahead of a text: plain. -/
import Derived.Test.YtpefkhbejjndeaaUqAwake
import Derived.Test.YtpefkhbejjndeaaCharPlain2
import Derived.Test.YtpefkhbejjndeaaPartPlain
import Derived.Test.YtpefkhbejjndeaaRefSame
namespace Go.Proofs.Ytpefkhbejjndeaa
open Go

theorem app_list (a b : ByteArray) : (a ++ b).toList = a.toList ++ b.toList := by
  rw [Lib.toList_data, Lib.toList_data, Lib.toList_data, ByteArray.data_append, Array.toList_append]
theorem app_size (a b : ByteArray) : (a ++ b).size = a.size + b.size := by rw [size_list, app_list, List.length_append, ← size_list, ← size_list]
theorem extract_head (a b : ByteArray) : (a ++ b).extract 0 a.size = a := by
  apply ext_list
  rw [extract_list, app_list, size_list]
  simp
theorem extract_tail (a b : ByteArray) : (a ++ b).extract a.size (a ++ b).size = b := by
  apply ext_list
  rw [extract_list, app_list, app_size, size_list, size_list]
  simp
theorem eq_list : (⟨#[61]⟩ : ByteArray).toList = [61] := by rw [Lib.toList_data]
theorem assign_eqs {s : ByteArray} (h : Chr.name s.toList = true) (t : ByteArray) : Chr.assign (s ++ ⟨#[61]⟩ ++ t).toList = (s.size : Int) := by
  rw [app_list, app_list, eq_list, Chr.assign_name h, size_list]
theorem assign_eqs0 {s : ByteArray} (h : Chr.name s.toList = true) : Chr.assign (s ++ ⟨#[61]⟩).toList = (s.size : Int) := by
  have := Chr.assign_name (t := []) h
  rw [List.append_nil] at this
  rw [app_list, eq_list, this, size_list]
/-- A right literal at the head: it is bare as it was. -/
theorem lit_bare {t o : ByteArray} {kids rest : Pts} {cm : Cm} (h : oneB 0 1 t.toList o.toList kids.len cm.n kids.headK kids.headT (kids.allP 1 none) (kids.allP 2 none) = true) : (Pts.lit t rest).bare = (Pts.cons 1 t o kids cm rest).bare ∧ 0 < t.size := by
  obtain ⟨h1, h2, h3, h4, _⟩ := oneB_lit h
  have ho : o = ⟨#[]⟩ := by apply ext_list; rw [h2, Lib.toList_data]
  have hk : kids = .nil := Pts.nil_of_len h3
  subst ho hk
  exact ⟨rfl, by rw [size_list]; exact List.length_pos_iff.2 h1⟩
theorem right_one {k : Int} {t o : ByteArray} {kids rest : Pts} {cm : Cm} (h : (Pts.cons k t o kids cm rest).right = true) : oneB 0 k t.toList o.toList kids.len cm.n kids.headK kids.headT (kids.allP 1 none) (kids.allP 2 none) = true := by
  unfold Pts.right at h
  simp only [Bool.and_eq_true] at h
  have := h.1.2
  rw [Pts.allP] at this
  simp only [Bool.and_eq_true] at this
  exact this.1.1
end Go.Proofs.Ytpefkhbejjndeaa
