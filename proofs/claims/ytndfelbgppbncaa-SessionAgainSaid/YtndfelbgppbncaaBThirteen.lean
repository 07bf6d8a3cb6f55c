/- package frame: a packet that was packed comes back. -/
import Derived.Test.YtndfelbgppbncaaBTwelve
set_option linter.unusedVariables false
namespace Go.Proofs.Ytndfelbgppbncaa
open Go.RowKit
theorem gnum_at (c : List UInt8) (at' n : Nat) (r : List UInt8) (hn : n < 18446744073709551616) (h : c.drop at' = By.uv n ++ r) : gnum c at' 0 = (n, at' + (By.uv n).length, 0) ∧ c.drop (at' + (By.uv n).length) = r := by
  refine ⟨?_, ?_⟩
  · unfold gnum
    rw [if_neg (by simp), h, By.gu_uv n hn r]
    rfl
  · rw [← List.drop_drop, h, List.drop_left]
theorem gs_step (c : List UInt8) (j at' n : Nat) (r : List UInt8) (hs : gs c j = (at', 0)) (hn : n ≤ 4611686018427387904) (h : c.drop at' = By.uv n ++ r) : gs c (j + 1) = (at' + (By.uv n).length, 0) ∧ gx c j = n ∧ c.drop (at' + (By.uv n).length) = r := by
  obtain ⟨g1, g2⟩ := gnum_at c at' n r (by omega) h
  have e1 : gs c (j + 1) = ((gnum c (gs c j).1 (gs c j).2).2.1, gtop (gnum c (gs c j).1 (gs c j).2).1 (gnum c (gs c j).1 (gs c j).2).2.2) := rfl
  have e2 : gx c j = (gnum c (gs c j).1 (gs c j).2).1 := rfl
  rw [hs] at e1 e2
  simp only at e1 e2
  rw [g1] at e1 e2
  simp only at e1 e2
  refine ⟨?_, e2, g2⟩
  rw [e1]
  unfold gtop
  rw [if_neg (fun q => by omega)]
theorem fin_pk (p : By.Pk) (hp : p.right) : fin (By.pk p) = ((p.fr : Int), (p.life : Int), (p.seq : Int), (p.ack : Int), p.data, 0) := by
  obtain ⟨p1, p2, p3, p4, p5, p6⟩ := hp
  unfold By.top at p1 p2 p3 p4
  have h0 : gs (By.pk p) 0 = (0, 0) := rfl
  obtain ⟨s1, x0, d1⟩ := gs_step (By.pk p) 0 0 p.fr _ h0 p1 (by unfold By.pk; rfl)
  obtain ⟨s2, x1, d2⟩ := gs_step (By.pk p) 1 _ p.life _ s1 p2 d1
  obtain ⟨s3, x2, d3⟩ := gs_step (By.pk p) 2 _ p.seq _ s2 p3 d2
  obtain ⟨s4, x3, d4⟩ := gs_step (By.pk p) 3 _ p.ack _ s3 p4 d3
  have hb := By.getBlob_blob 1048576 p.data [] p5 (by omega)
  rw [List.append_nil] at hb
  have hlen : (By.pk p).length = 0 + (By.uv p.fr).length + (By.uv p.life).length + (By.uv p.seq).length + (By.uv p.ack).length + (By.blob p.data).length := by
    unfold By.pk; simp only [List.length_append]; omega
  have hbl : bl4 (By.pk p) = (p.data, 0 + (By.uv p.fr).length + (By.uv p.life).length + (By.uv p.seq).length + (By.uv p.ack).length + (By.blob p.data).length, 0) := by
    rw [bl4_eq, s4]
    unfold gblob
    simp only
    rw [if_neg (by simp), d4, hb]
    simp
  have hw : ∀ n : Nat, n ≤ 4611686018427387904 → IntKind.i64.wrap (n : Int) = (n : Int) := fun n h => IntWalk.i64_in _ (by omega)
  have hr : rightB (p.fr : Int) (p.life : Int) (p.seq : Int) (p.ack : Int) p.data.length = true := by
    unfold rightB
    rw [(okN_iff _).2 (by omega), (okN_iff _).2 (by omega), (okN_iff _).2 (by omega), (okN_iff _).2 (by omega)]
    rcases p6 with h | h
    · simp [p5, h]
    · simp [h]
  exact (fin_cases (By.pk p) p.data _ 0 p.fr p.life p.seq p.ack (by rw [x0, hw _ p1]) (by rw [x1, hw _ p2]) (by rw [x2, hw _ p3]) (by rw [x3, hw _ p4]) hbl).2.2.2 rfl hr (by rw [hlen]; omega)
theorem unpack_packed (ba : Option Addr) (n cap : Nat) (p : By.Pk) (w : World) (hp : p.right) (hn : (By.pack p).length = n) (hr : Rd w ba (By.pack p)) (hb : ba = none → n = 0) (hc : n ≤ cap) :
    Calls Try.prog 30 #[.slice ba n cap] w (UnpPost p.fr p.life p.seq p.ack p.data 0 w) := by
  have hl := By.pk_len p
  have h5 := hp.2.2.2.2.1
  exact unpack_body ba n cap (By.pack p) (By.pk p) _ _ _ _ _ _ w hn hr hb (by rw [← hn]; unfold By.pack; rw [By.shut_len]; omega) hc ⟨By.open_shut _⟩ ⟨fin_pk p hp⟩
end Go.Proofs.Ytndfelbgppbncaa
