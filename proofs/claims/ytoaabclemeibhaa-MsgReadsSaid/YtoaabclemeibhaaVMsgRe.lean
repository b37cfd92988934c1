/- The walk of MsgReads. Conditions: lengths. -/
import Derived.Test.YtoaabclemeibhaaZf
import Derived.Test.YtoaabclemeibhaaVRef18S
import Derived.Test.YtoaabclemeibhaaVRef18D
namespace Go.Proofs.Ytoaabclemeibhaa
open Go.RowKit Go.TL
set_option maxRecDepth 100000 in
set_option maxHeartbeats 16000000 in
theorem MsgReads_any (s : List UInt8) (w : World) : Calls Try.prog 3 #[.string (mkS s)] w fun e w' => e = .returned (.bool true) ∧ Below w.heap.size w w' := by
  have M := Mem.start [] w
  by_cases hs : 20000 < s.length
  · have hs' : (20000 : Int) < (s.length : Int) := by omega
    go_enter Try.func3, Try.ntmps3
    go_wp2_with ((first | ((with_reducible refine tGuard ?_); (with_reducible refine w_stripE ?_ ?_); (focus (refine ⟨_, rfl, ?_⟩; first | (with_reducible rfl) | exact decide_eq_false (by omega) | exact decide_eq_true (by omega)))) | ((with_reducible refine tGuard ?_); first | ((with_reducible refine w_skip1 ?_ ?_); (focus (refine ⟨_, rfl, ?_⟩; first | (with_reducible rfl) | exact decide_eq_false (by omega) | exact decide_eq_true (by omega)))) | ((with_reducible refine w_skip0 ?_ ?_); (focus (refine ⟨_, rfl, ?_⟩; first | (with_reducible rfl) | exact decide_eq_false (by omega) | exact decide_eq_true (by omega))))) | (go_at_call 10; go_must (refine (awake18_c _).mono ?_; rintro e w1 ⟨rfl, hb⟩; replace M := M.call hb; clear hb)) | ((with_reducible refine tGuard ?_); refine w_strip rfl (by with_reducible rfl) ?_) | fail | ((with_reducible refine tLoad ?_); go_must (refine w_at _ _ rfl (by exact ev_tmp rfl) ?_; intro hx; (first | refine w_load M _ _ _ rfl rfl hx rfl (by decide +kernel) (by exact rfl) ?_ | refine w_loadR M _ _ _ rfl rfl hx rfl (by decide +kernel) (by kernel_rfl) ?_); clear hx)) | ((with_reducible refine tStore ?_); go_must (refine w_at2 _ _ _ rfl (by exact ev_tmp rfl) (by first | exact ev_tmp rfl | exact ev_const) ?_; intro hx hy; (first | refine w_store M _ _ _ _ rfl rfl hx rfl hy rfl rfl (by decide +kernel) (by first | decide | simp | (simp; omega)) ?_ | refine w_storeR M _ _ _ _ rfl rfl hx rfl _ hy rfl (by kernel_rfl) (by simp [Value.oneCell']) (by first | rfl | assumption) ?_); clear hx hy M; intro w1 M; (try simp only [setC] at M))) | ((with_reducible refine tBox _ ?_); (refine w_box M _ _ rfl rfl _ rfl _ rfl ?_; clear M; intro g w1 M))) <;> (try conv => arg 5; simp only [Act.put, List.setIfInBounds_toArray, setC]))
    go_ret
    exact ⟨rfl, M.below⟩
  · have hs' : ¬ (20000 : Int) < (s.length : Int) := by omega
    have R1 := fun w => Read_c s w (by omega)
    have R2 := fun w => Read18_c s w (by omega)
    obtain ⟨hRf, hRo, hRp⟩ := readM_form s (by omega)
    obtain ⟨⟨Lr, er⟩, eR⟩ : ∃ R, R = readM s := ⟨_, rfl⟩
    rw [← eR] at R1 R2 hRf hRo hRp
    unfold GivesM at R1 R2
    simp only at R1 R2 hRf hRo hRp
    have SC := fun w a b c d S T S' T' => rSame18_c Lr Lr a b c d w hRf hRf S T S' T' (by omega) (by omega) (by omega) (by omega)
    rw [decide_eq_true rfl] at SC
    replace R1 := Lib.hid R1
    replace R2 := Lib.hid R2
    replace SC := Lib.hid SC
    clear eR hs
    go_enter Try.func3, Try.ntmps3
    go_wp2_with ((first | ((with_reducible refine tGuard ?_); (with_reducible refine w_stripE ?_ ?_); (focus (refine ⟨_, rfl, ?_⟩; first | (with_reducible rfl) | exact decide_eq_false (by omega) | exact decide_eq_true (by omega)))) | ((with_reducible refine tGuard ?_); first | ((with_reducible refine w_skip1 ?_ ?_); (focus (refine ⟨_, rfl, ?_⟩; first | (with_reducible rfl) | exact decide_eq_false (by omega) | exact decide_eq_true (by omega)))) | ((with_reducible refine w_skip0 ?_ ?_); (focus (refine ⟨_, rfl, ?_⟩; first | (with_reducible rfl) | exact decide_eq_false (by omega) | exact decide_eq_true (by omega))))) | (go_at_call 10; go_must (refine (awake18_c _).mono ?_; rintro e w1 ⟨rfl, hb⟩; replace M := M.call hb; clear hb)) | ((go_at_call 11); go_must (refine (R1.out _).mono ?_; rintro e w7 ⟨ov1, pv1, rfl, N⟩; replace M := M.join N; clear N; simp only [List.cons_append, List.nil_append] at M; have hf1 := ms_fit2 hRf M)) | ((go_at_call 12); go_must (refine (R2.out _).mono ?_; rintro e w7 ⟨ov2, pv2, rfl, N⟩; replace M := M.join N; clear N; simp only [List.cons_append, List.nil_append] at M; have hf2 := ms_fit2 hRf M)) | ((with_reducible refine tAlloc (some 3) 30 ?_); refine w_alloc M _ rfl rfl (.agg (msgC zeroM).toArray) (msgC zeroM) (by kernel_rfl) rfl ?_; clear M; intro g3 w1 M) | ((with_reducible refine tAlloc (some 5) 30 ?_); refine w_alloc M _ rfl rfl (.agg (msgC zeroM).toArray) (msgC zeroM) (by kernel_rfl) rfl ?_; clear M; intro g5 w1 M) | ((with_reducible refine tStore ?_); refine w_at2 _ _ _ rfl (by exact ev_tmp rfl) (by first | exact ev_tmp rfl | exact ev_const) ?_; intro hx hy; (first | refine w_storeMs (m := Lr.ms ov1 pv1) M 0 _ _ _ rfl rfl hx rfl hy rfl (by kernel_rfl) hf1 zeroM_fit ?_ | refine w_storeMs (m := Lr.ms ov2 pv2) M 0 _ _ _ rfl rfl hx rfl hy rfl (by kernel_rfl) hf2 zeroM_fit ?_); clear hx hy M; intro w1 M; (try simp only [setC] at M)) | ((with_reducible show wpList _ _ _ (Oper.mk _ (Op.load 30 _) _ _ _ _ :: _) _ _); refine w_at _ _ rfl (by exact ev_tmp rfl) ?_; intro hx; (first | refine w_loadMs M 3 _ _ rfl rfl hx rfl (by decide +kernel) (by kernel_rfl) hf1 ?_ | refine w_loadMs M 0 _ _ rfl rfl hx rfl (by decide +kernel) (by kernel_rfl) hf2 ?_); clear hx) | ((go_at_call 13); go_must ((first | (with_reducible refine (SC.out _ ov1 pv1 ov2 pv2 (SeesL.own M 4 rfl rfl opV_len) (SeesL.own M 5 rfl rfl prV_len) (SeesL.own M 1 rfl rfl opV_len) (SeesL.own M 2 rfl rfl prV_len)).mono ?_)); rintro e w1 ⟨rfl, hb⟩; replace M := M.call hb; clear hb)) | ((with_reducible refine tGuard ?_); refine w_strip rfl (by with_reducible rfl) ?_) | fail | ((with_reducible refine tLoad ?_); go_must (refine w_at _ _ rfl (by exact ev_tmp rfl) ?_; intro hx; (first | refine w_load M _ _ _ rfl rfl hx rfl (by decide +kernel) (by exact rfl) ?_ | refine w_loadR M _ _ _ rfl rfl hx rfl (by decide +kernel) (by kernel_rfl) ?_); clear hx)) | ((with_reducible refine tStore ?_); go_must (refine w_at2 _ _ _ rfl (by exact ev_tmp rfl) (by first | exact ev_tmp rfl | exact ev_const) ?_; intro hx hy; (first | refine w_store M _ _ _ _ rfl rfl hx rfl hy rfl rfl (by decide +kernel) (by first | decide | simp | (simp; omega)) ?_ | refine w_storeR M _ _ _ _ rfl rfl hx rfl _ hy rfl (by kernel_rfl) (by simp [Value.oneCell']) (by first | rfl | assumption) ?_); clear hx hy M; intro w1 M; (try simp only [setC] at M))) | ((with_reducible refine tBox _ ?_); (refine w_box M _ _ rfl rfl _ rfl _ rfl ?_; clear M; intro g w1 M))) <;> (try conv => arg 5; simp only [Act.put, List.setIfInBounds_toArray, setC]))
    go_ret
    exact ⟨by first | rfl | simp, M.below⟩
end Go.Proofs.Ytoaabclemeibhaa
