/- The walk of cal.Of where there is no such date. -/
import Derived.Test.YtgfjjhojbpheeaaDoorCalN1
import Derived.Test.YtgfjjhojbpheeaaDoorCalN2
import Derived.Test.YtgfjjhojbpheeaaDoorCalN3
namespace Go.Proofs.YtgfjjhojbpheeaaDoor

theorem ofday_no (y m d : Int) (w : World) (h : ¬ okD y m d) (ht : Tab w) :
    Calls Tryd.prog 19 #[.agg #[.int .i64 y, .int .i64 m, .int .i64 d]] w fun e w' => e = .returned (.tuple #[.int .i64 0, .int .i64 1]) ∧ Mor w w' := by
  unfold okD at h
  by_cases h1 : 1600 ≤ y
  · by_cases h2 : y ≤ 2399
    · by_cases h3 : 1 ≤ m
      · by_cases h4 : m ≤ 12
        · by_cases h5 : 1 ≤ d
          · exact ofday_no6 y m d w h1 h2 h3 h4 h5 (by omega) ht
          · exact ofday_no5 y m d w h1 h2 h3 h4 (by omega) ht
        · exact ofday_no4 y m d w h1 h2 h3 (by omega) ht
      · exact ofday_no3 y m d w h1 h2 (by omega) ht
    · exact ofday_no2 y m d w h1 (by omega) ht
  · exact ofday_no1 y m d w (by omega) ht

end Go.Proofs.YtgfjjhojbpheeaaDoor
