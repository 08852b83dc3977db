/- CksumOpens: which frame stands at the front of any bytes (up to 20,000), what is behind it, and whether it is all, or the error, is the document's. For every input. -/
import Derived.Test.YtlmecdlbnpnajaaPAx9
import Derived.Test.YtlmecdlbnpnajaaAQ1
import Derived.Test.YtlmecdlbnpnajaaAQ2
import Derived.Test.YtlmecdlbnpnajaaAQ3
import Derived.OpenShut
namespace Go.Proofs.Ytlmecdlbnpnajaa.Pure
open Go.RowKit Go.Proofs.Ytlmecdlbnpnajaa.PA Go.Proofs.YtlmecdlbnpnajaaW.PrintWords Go.Proofs.YtlmecdlbnpnajaaW.PrintLast Go.Proofs.YtlmecdlbnpnajaaW.PrintMore
set_option linter.unusedVariables false
set_option linter.unusedSimpArgs false


theorem refopn_f (k : Nat) (x : List Nat) (hx : ∀ a ∈ x, a < 256) (hl : x.length ≤ 140737488351232) (hk : 10 * x.length + 200 ≤ k) : spliceref02_Open.f k (ba x) = some (ba (opn x).1, ba (opn x).2.1, ((opn x).2.2 : Int)) := by
  have hok : Vm.Ok (x, 0) := ⟨hx, hl, Or.inl rfl⟩
  have hr := refrt_g k (by omega) 1048576 (x, 0) hok
  obtain ⟨ho, hle, _, hb1⟩ := Vm.rt_ok 1048576 (x, 0) hok
  have honce := rt_once 1048576 (by omega) x hx
  unfold spliceref02_Open.f opn
  simp only
  simp only at hr hle
  rw [show ((0 : Nat) : Int) = 0 from rfl] at hr
  rw [hr]
  simp only [Option.bind_some]
  generalize Vm.rt 1048576 (x, 0) = r at *
  by_cases h0 : r.2.2 = 0
  · obtain ⟨e1, e2⟩ := honce h0
    rw [if_pos (show ((r.2.2 : Nat) : Int) = 0 by omega), if_neg (show ¬ (r.2.2 ≠ 0) by simp [h0])]
    simp only [ba_size]
    by_cases h4 : r.2.1.length < 4
    · rw [if_pos (show ((r.2.1.length : Nat) : Int) < 4 by omega), if_pos h4]; rfl
    · rw [if_neg (show ¬ ((r.2.1.length : Nat) : Int) < 4 by omega), if_neg h4]
      have hxl : x.length = (pre r.1).length + r.2.1.length := by
        have := congrArg List.length e1
        rw [List.length_append] at this
        exact this
      have hpl := pre_len r.1 (by omega)
      have hfl : (frm r.1).length = (pre r.1).length + 4 := by unfold frm; rw [List.length_append, four_len]
      rw [refframe_f k (ba r.1) (by rw [ba_size]; omega) (by rw [ba_size]; omega), nb_ba r.1 hb1]
      simp only [Option.bind_some, ba_size]
      rw [if_pos (by omega), if_pos (by omega), Int.toNat_natCast, ba_extract, List.drop_zero]
      have e3 : x.take (x.length - r.2.1.length) = pre r.1 := by
        have : x.length - r.2.1.length = (pre r.1).length := by omega
        rw [this]
        have e9 : ∀ (a b c : List Nat), c = a ++ b → c.take a.length = a := by
          intro a b c h; rw [h, List.take_left]
        exact e9 _ _ _ e1
      have e4 : x.take (frm r.1).length = pre r.1 ++ r.2.1.take 4 := by
        rw [hfl]
        have e9 : ∀ (a b c : List Nat), c = a ++ b → c.take (a.length + 4) = a ++ b.take 4 := by
          intro a b c h; rw [h, List.take_append, List.take_of_length_le (by omega), Nat.add_sub_cancel_left]
        exact e9 _ _ _ e1
      rw [e3, e4]
      have hbx : ∀ a ∈ pre r.1 ++ r.2.1.take 4, a < 256 := by
        rw [← e4]; exact fun a ha => hx a (List.mem_of_mem_take ha)
      by_cases hc : Crc.four (Crc.sum (pre r.1)) = r.2.1.take 4
      · rw [if_pos hc]
        have : (ba (frm r.1)).toList = (ba (pre r.1 ++ r.2.1.take 4)).toList := by
          rw [← hc]; rfl
        rw [if_pos this, if_pos (by omega), ba_extract, List.take_length]
        rfl
      · rw [if_neg hc, if_neg]
        · rfl
        · rw [toList_iff]
          intro h
          have := (ba_inj _ _ (frm_byte _ hb1) hbx).1 h
          unfold frm at this
          exact hc (List.append_cancel_left this)
  · rw [if_neg (show ¬ ((r.2.2 : Nat) : Int) = 0 by omega), if_pos (show r.2.2 ≠ 0 from h0)]
    rfl
theorem CksumOpens : splicelaw02_CksumOpens.Pure := by
  intro s hs
  refine ⟨10 * s.size + 400, ?_⟩
  unfold splicelaw02_CksumOpens.f
  by_cases h : (s.size : Int) > 20000
  · rw [if_pos h, awake2_f _ (by omega)]; rfl
  · have hl := nb_len s
    have hx := nb_lt s
    rw [if_neg h]
    have e1 := opn_f (10 * s.size + 400) (nb s) hx (by omega) (by omega)
    have e2 := refopn_f (10 * s.size + 400) (nb s) hx (by omega) (by omega)
    have e3 := opn_err (nb s)
    rw [ba_nb] at e1 e2
    rw [e1, e2]
    unfold cksum_Whole.f
    rw [e1]
    simp only [Option.bind_some]
    generalize opn (nb s) = r at *
    by_cases h0 : r.2.2 = 0
    · rw [if_pos (show ((r.2.2 : Nat) : Int) = 0 by omega)]
      by_cases hn : r.2.1 = []
      · rw [if_pos ((ba_nil_iff _).2 hn)]
        simp only [Option.bind_some]
        rw [if_pos trivial, if_pos trivial, h0, hn]
        have hq : ((((0 : Nat) : Int) != ((0 : Nat) : Int))) = false := by decide
        have hn2 : ((ba []).toList != ([] : List UInt8)) = false := by rw [ba_toList]; rfl
        rw [hq]
        simp only [splicelaw02_CksumOpens.j0, splicelaw02_CksumOpens.j1]
        rw [hn2, if_neg (by decide), if_pos (by rfl), if_neg (by decide), awake2_f _ (by omega)]
        simp
      · have hn2 : ((ba r.2.1).toList != ([] : List UInt8)) = true := by
          rw [bne_iff_ne]; exact fun h => hn ((ba_nil_iff _).1 h)
        rw [if_neg (fun h => hn ((ba_nil_iff _).1 h))]
        simp only [Option.bind_some]
        rw [if_pos trivial, if_pos trivial, h0]
        have hq : ((((0 : Nat) : Int) != ((0 : Nat) : Int))) = false := by decide
        rw [hq]
        simp only [splicelaw02_CksumOpens.j0, splicelaw02_CksumOpens.j1]
        rw [hn2, if_neg (by decide), if_pos (by rfl), if_pos (by rfl), awake2_f _ (by omega)]
        have hz : (⟨#[]⟩ : ByteArray).toList = ([] : List UInt8) := by rw [nil_ba, ba_toList]; rfl
        simp [hz]
    · have h3 := e3 h0
      rw [if_neg (show ¬ ((r.2.2 : Nat) : Int) = 0 by omega)]
      simp only [Option.bind_some]
      rw [if_pos trivial, if_pos trivial]
      have hq : ((((r.2.2 : Nat) : Int) != ((r.2.2 : Nat) : Int))) = false := by simp
      rw [hq]
      simp only [splicelaw02_CksumOpens.j0, splicelaw02_CksumOpens.j1]
      rw [if_neg (by decide), if_neg (show ¬ ((r.2.2 : Nat) : Int) = 0 by omega), if_neg (by decide), awake2_f _ (by omega)]
      simp only [Option.bind_some]
      have h4 : r.1 = [] := congrArg (fun z => z.1) h3
      rw [if_pos trivial, h4, if_pos (by rfl)]
      simp

end Go.Proofs.Ytlmecdlbnpnajaa.Pure
