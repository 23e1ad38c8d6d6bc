/-
  The walks of code.Key and code.Kind.
-/
import Derived.Test.YthfafenigjldlaaGreatLabel1
namespace Go.Proofs.YthfafenigjldlaaGreat
open Go.RowKit
set_option linter.unusedVariables false

def pS : ByteArray := ⟨#[112, 47]⟩
def nS : ByteArray := ⟨#[110, 47]⟩
def lS : ByteArray := ⟨#[108]⟩
theorem pS_l : pS.toList = [112, 47] := by rw [ByteArray.toList_eq]; rfl
theorem nS_l : nS.toList = [110, 47] := by rw [ByteArray.toList_eq]; rfl
theorem lS_l : lS.toList = [108] := by rw [ByteArray.toList_eq]; rfl
def keyS (kind : Int) (name : ByteArray) : ByteArray :=
  if kind = 3 then lS else if kind = 1 ∧ nameB name = true then pS ++ name else if kind = 2 ∧ nameB name = true then nS ++ name else ⟨#[]⟩

set_option maxHeartbeats 1000000 in
theorem cKey_any (kind : Int) (name : ByteArray) (w : World) (hs : okS name) :
    Calls Tryz.prog 29 #[.int .i64 kind, .string name] w fun e w' => e = .returned (.string (keyS kind name)) ∧ w = w' := by
  by_cases h3 : kind = 3
  · subst h3
    go_enter Tryz.func29, Tryz.ntmps29
    go_wp2_with fail
    go_ret
    exact ⟨rfl, rfl⟩
  by_cases h1 : kind = 1
  · subst h1
    cases hb : nameB name
    · have F : Hid ((⟨#[]⟩ : ByteArray) = keyS 1 name) := by show _ = _; unfold keyS; simp [hb]
      have HN := Lib.hid (name_any name w hs)
      rw [hb] at HN
      clear hb
      go_enter Tryz.func29, Tryz.ntmps29
      go_wp2_with fail
      refine HN.out.mono ?_
      rintro e w2 ⟨rfl, rfl⟩
      go_wp2_with fail
      go_ret
      exact ⟨ret_str F.out, rfl⟩
    · have hsz : ¬ 9223372036854775807 < 2 + name.size := by
        have : name.size ≤ 12 := by simp only [nameB, Bool.and_eq_true, decide_eq_true_eq] at hb; exact hb.1.2
        omega
      have F : Hid (pS ++ name = keyS 1 name) := by show _ = _; unfold keyS; simp [hb]
      have HN := Lib.hid (name_any name w hs)
      rw [hb] at HN
      clear hb
      go_enter Tryz.func29, Tryz.ntmps29
      go_wp2_with fail
      refine HN.out.mono ?_
      rintro e w2 ⟨rfl, rfl⟩
      go_wp2_with fail
      go_ret
      exact ⟨ret_str F.out, rfl⟩
  by_cases h2 : kind = 2
  · subst h2
    cases hb : nameB name
    · have F : Hid ((⟨#[]⟩ : ByteArray) = keyS 2 name) := by show _ = _; unfold keyS; simp [hb]
      have HN := Lib.hid (name_any name w hs)
      rw [hb] at HN
      clear hb
      go_enter Tryz.func29, Tryz.ntmps29
      go_wp2_with fail
      refine HN.out.mono ?_
      rintro e w2 ⟨rfl, rfl⟩
      go_wp2_with fail
      go_ret
      exact ⟨ret_str F.out, rfl⟩
    · have hsz : ¬ 9223372036854775807 < 2 + name.size := by
        have : name.size ≤ 12 := by simp only [nameB, Bool.and_eq_true, decide_eq_true_eq] at hb; exact hb.1.2
        omega
      have F : Hid (nS ++ name = keyS 2 name) := by show _ = _; unfold keyS; simp [hb]
      have HN := Lib.hid (name_any name w hs)
      rw [hb] at HN
      clear hb
      go_enter Tryz.func29, Tryz.ntmps29
      go_wp2_with fail
      refine HN.out.mono ?_
      rintro e w2 ⟨rfl, rfl⟩
      go_wp2_with fail
      go_ret
      exact ⟨ret_str F.out, rfl⟩
  have F : Hid ((⟨#[]⟩ : ByteArray) = keyS kind name) := by show _ = _; unfold keyS; simp [h1, h2, h3]
  go_enter Tryz.func29, Tryz.ntmps29
  go_wp2_with fail
  go_ret
  exact ⟨ret_str F.out, rfl⟩

def kindI (key : ByteArray) : Int :=
  if key = lS then 3 else if 2 < key.size ∧ key.extract 0 2 = pS ∧ nameB (key.extract 2 key.size) = true then 1 else if 2 < key.size ∧ key.extract 0 2 = nS ∧ nameB (key.extract 2 key.size) = true then 2 else 0

set_option maxHeartbeats 1000000 in
theorem cKind_any (key : ByteArray) (w : World) (hs : okS key) :
    Calls Tryz.prog 30 #[.string key] w fun e w' => e = .returned (.int .i64 (kindI key)) ∧ w = w' := by
  have hs' : key.size ≤ 9223372036854775807 := by unfold okS maxLen at hs; omega
  by_cases h0 : key = lS
  · have q0 : (key.toList == [108]) = true := by rw [h0, lS_l]; rfl
    have F : Hid (3 = kindI key) := by show _ = _; unfold kindI; rw [if_pos h0]
    clear h0
    go_enter Tryz.func30, Tryz.ntmps30
    go_wp2_with fail
    go_ret
    exact ⟨ret_int F.out, rfl⟩
  have q0 : (key.toList == [108]) = false := by rw [← lS_l]; exact eqS_false.2 h0
  by_cases h1 : 2 < key.size
  case neg =>
    have F : Hid (0 = kindI key) := by show _ = _; unfold kindI; rw [if_neg h0, if_neg (fun h => h1 h.1), if_neg (fun h => h1 h.1)]
    have h1' : ¬ (2 : Int) < (key.size : Int) := by omega
    clear h0
    go_enter Tryz.func30, Tryz.ntmps30
    go_wp2_with fail
    go_ret
    exact ⟨ret_int F.out, rfl⟩
  have h1' : (2 : Int) < (key.size : Int) := by omega
  have hy : okS (key.extract 2 key.size) := by
    show (key.extract 2 key.size).size ≤ maxLen
    unfold maxLen
    rw [ByteArray.size_extract]
    omega
  have HN := Lib.hid (fun wx => name_any (key.extract 2 key.size) wx hy)
  have hle : (2 : Int) ≤ (key.size : Int) := by omega
  clear hy
  by_cases hp : key.extract 0 2 = pS
  · have p1 : (key.extract 0 2).toList = [112, 47] := by rw [hp, pS_l]
    cases hb : nameB (key.extract 2 key.size)
    · have F : Hid (0 = kindI key) := by
        show _ = _
        unfold kindI
        rw [if_neg h0, if_neg (fun h => by rw [hb] at h; exact absurd h.2.2 (by decide)), if_neg (fun h => by rw [hb] at h; exact absurd h.2.2 (by decide))]
      rw [hb] at HN
      clear hb h0 hp
      go_enter Tryz.func30, Tryz.ntmps30
      go_wp2_with fail
      refine (HN.out _).mono ?_
      rintro e w2 ⟨rfl, rfl⟩
      go_wp2_with fail
      go_ret
      exact ⟨ret_int F.out, rfl⟩
    · have F : Hid (1 = kindI key) := by
        show _ = _
        unfold kindI
        rw [if_neg h0, if_pos ⟨h1, hp, hb⟩]
      rw [hb] at HN
      clear hb h0 hp
      go_enter Tryz.func30, Tryz.ntmps30
      go_wp2_with fail
      refine (HN.out _).mono ?_
      rintro e w2 ⟨rfl, rfl⟩
      go_wp2_with fail
      go_ret
      exact ⟨ret_int F.out, rfl⟩
  have p1 : ¬ (key.extract 0 2).toList = [112, 47] := fun h => hp (eqS_iff.1 (by unfold eqS; rw [h, pS_l]; rfl))
  by_cases hn : key.extract 0 2 = nS
  · have p2 : (key.extract 0 2).toList = [110, 47] := by rw [hn, nS_l]
    cases hb : nameB (key.extract 2 key.size)
    · have F : Hid (0 = kindI key) := by
        show _ = _
        unfold kindI
        rw [if_neg h0, if_neg (fun h => hp h.2.1), if_neg (fun h => by rw [hb] at h; exact absurd h.2.2 (by decide))]
      rw [hb] at HN
      clear hb h0 hp hn
      go_enter Tryz.func30, Tryz.ntmps30
      go_wp2_with fail
      refine (HN.out _).mono ?_
      rintro e w2 ⟨rfl, rfl⟩
      go_wp2_with fail
      go_ret
      exact ⟨ret_int F.out, rfl⟩
    · have F : Hid (2 = kindI key) := by
        show _ = _
        unfold kindI
        rw [if_neg h0, if_neg (fun h => hp h.2.1), if_pos ⟨h1, hn, hb⟩]
      rw [hb] at HN
      clear hb h0 hp hn
      go_enter Tryz.func30, Tryz.ntmps30
      go_wp2_with fail
      refine (HN.out _).mono ?_
      rintro e w2 ⟨rfl, rfl⟩
      go_wp2_with fail
      go_ret
      exact ⟨ret_int F.out, rfl⟩
  have p2 : ¬ (key.extract 0 2).toList = [110, 47] := fun h => hn (eqS_iff.1 (by unfold eqS; rw [h, nS_l]; rfl))
  have F : Hid (0 = kindI key) := by
    show _ = _
    unfold kindI
    rw [if_neg h0, if_neg (fun h => hp h.2.1), if_neg (fun h => hn h.2.1)]
  clear h0 hp hn
  go_enter Tryz.func30, Tryz.ntmps30
  go_wp2_with fail
  go_ret
  exact ⟨ret_int F.out, rfl⟩
end Go.Proofs.YthfafenigjldlaaGreat
