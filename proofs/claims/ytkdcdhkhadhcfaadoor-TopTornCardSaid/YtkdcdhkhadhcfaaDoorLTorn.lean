/-
  the top law: TopTorn: what the anchors tear, for every net, two truths, holes and menders: the call returns true and changes nothing that was there, where the library's table lies as it was laid.
-/
import Derived.Test.YtkdcdhkhadhcfaaDoorLTorn1
import Derived.Test.YtkdcdhkhadhcfaaDoorLTorn2
import Derived.Test.YtkdcdhkhadhcfaaDoorLTorn3
import Derived.Test.YtkdcdhkhadhcfaaDoorLTorn4
namespace Go.Proofs.YtkdcdhkhadhcfaaDoor
open Go Go.RowKit
set_option maxHeartbeats 8000000
set_option maxRecDepth 100000
theorem TopTorn_any (n : Net) (u c : NTr) (hs : List Hole) (m : Int) (vn vu vc vh : Value) (w : World) (hn : NetAt w vn n) (hug : IntsAt w vu u.grips) (hcg : IntsAt w vc c.grips) (hh : HolesAt w vh hs) (hT : BruAt w) :
    Calls Tryd.prog 4 #[vn, .agg #[.int .i64 u.wind, .int .i64 u.cur, vu, .int .i64 c.wind, .int .i64 c.cur, vc, vh, .int .i64 m]] w fun e w' => e = .returned (.bool true) ∧ Bel w w' := by
  cases h0 : hugeN n u
  · cases h1 : hugeN n c
    · cases h3 : netB n
      · exact torn_l2 n u c hs m vn vu vc vh w hn hug hcg hh hT h0 h1 h3
      · cases h4 : ntrB n u
        · exact torn_l3 n u c hs m vn vu vc vh w hn hug hcg hh hT h0 h1 h3 h4
        · cases h5 : ntrB n c
          · exact torn_l4 n u c hs m vn vu vc vh w hn hug hcg hh hT h0 h1 h3 h4 h5
          · by_cases q1 : u.wind < c.wind
            · exact torn_l5 n u c hs m vn vu vc vh w hn hug hcg hh hT h0 h1 h3 h4 h5 q1
            · by_cases q2 : u.cur < c.cur
              · exact torn_l6 n u c hs m vn vu vc vh w hn hug hcg hh hT h0 h1 h3 h4 h5 q1 q2
              · by_cases q3 : hs.length = n.an.length
                · exact torn_main n u c hs m vn vu vc vh w hn hug hcg hh hT h0 h1 h3 h4 h5 q1 q2 q3
                · exact torn_l7 n u c hs m vn vu vc vh w hn hug hcg hh hT h0 h1 h3 h4 h5 q1 q2 q3
    · exact torn_l1 n u c hs m vn vu vc vh w hn hug hcg hh hT h0 h1
  · exact torn_l0 n u c hs m vn vu vc vh w hn hug hcg hh hT h0
end Go.Proofs.YtkdcdhkhadhcfaaDoor
