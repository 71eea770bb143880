/-
  A part of the proof of QueryValues (the machine on named data, and the contracts of the functions that the law reaches): Q6 Q7.
-/
import Derived.Test.YtholilpmihngaaaGreatDoorKb
set_option linter.all false
set_option linter.unusedVariables false
set_option linter.unusedSimpArgs false
set_option linter.unusedSectionVars false
namespace Go.Proofs.YtholilpmihngaaaGreatDoor
open Go Go.AM
/-! ### the document's Test -/
noncomputable def eRg : Ent := eFn 20 [.agg tV] [.one .bool] [] 12
noncomputable def eCr : Ent := eFn 90 [.agg tV, .agg tV] [.one tI] [] 13
theorem eRt_ok : EntsOK Tryz.prog G theI [eRg, eCr] := ⟨eFn_ok plainG (pre_true fnRight) (fun _ => rfl) [] (by kernel_rfl), eFn_ok plainG (pre_true fnCmr) (fun _ => rfl) [] (by kernel_rfl), trivial⟩
theorem i12 (ds : List DV) : theI 12 ds = .list (Fright ds) := rfl
noncomputable def pRtest : Pln :=
  (.ask (.bin .lss (.v 0) (.ki .i64 (.ofNat 1)))
    (.done [[(.ki .i64 (.ofNat 0))], [(.ki .i64 (.ofNat 2))]])
    (.ask (.bin .lss (.ki .i64 (.ofNat 6)) (.v 0))
      (.done [[(.ki .i64 (.ofNat 0))], [(.ki .i64 (.ofNat 2))]])
      (.ask (.at (.app 12 [(.v 1), (.v 2), (.v 3)]) (.ki .i64 (.ofNat 0)) 0)
        (.ask (.at (.app 12 [(.v 4), (.v 5), (.v 6)]) (.ki .i64 (.ofNat 0)) 0)
          (.ask (.bin .eql (.v 1) (.ki .i64 (.ofNat 1)))
            (.done [[(.ki .i64 (.ofNat 2))], [(.ki .i64 (.ofNat 0))]])
            (.ask (.bin .eql (.v 4) (.ki .i64 (.ofNat 1)))
              (.done [[(.ki .i64 (.ofNat 2))], [(.ki .i64 (.ofNat 0))]])
              (.ask (.bin .eql (.v 1) (.v 4))
                (.ask (.bin .eql (.v 1) (.ki .i64 (.ofNat 2)))
                  (.ask (.bin .lss (.ki .i64 (.ofNat 2)) (.v 0))
                    (.done [[(.ki .i64 (.ofNat 0))], [(.ki .i64 (.ofNat 153))]])
                    (.ask (.bin .eql (.v 0) (.ki .i64 (.ofNat 1)))
                      (.ask (.bin .eql (.at (.app 13 [(.v 1), (.v 2), (.v 3), (.v 4), (.v 5), (.v 6)]) (.ki .i64 (.ofNat 0)) 0) (.ki .i64 (.ofNat 0)))
                        (.done [[(.ki .i64 (.ofNat 1))], [(.ki .i64 (.ofNat 0))]])
                        (.ask (.bin .eql (.v 0) (.ki .i64 (.ofNat 2)))
                          (.done [[(.ki .i64 (.ofNat 1))], [(.ki .i64 (.ofNat 0))]])
                          (.ask (.bin .eql (.v 0) (.ki .i64 (.ofNat 3)))
                            (.ask (.bin .lss (.at (.app 13 [(.v 1), (.v 2), (.v 3), (.v 4), (.v 5), (.v 6)]) (.ki .i64 (.ofNat 0)) 0) (.ki .i64 (.ofNat 0)))
                              (.done [[(.ki .i64 (.ofNat 1))], [(.ki .i64 (.ofNat 0))]])
                              (.ask (.bin .eql (.v 0) (.ki .i64 (.ofNat 4)))
                                (.ask (.bin .lss (.ki .i64 (.ofNat 0)) (.at (.app 13 [(.v 1), (.v 2), (.v 3), (.v 4), (.v 5), (.v 6)]) (.ki .i64 (.ofNat 0)) 0))
                                  (.ask (.bin .eql (.v 0) (.ki .i64 (.ofNat 5)))
                                    (.done [[(.ki .i64 (.ofNat 1))], [(.ki .i64 (.ofNat 0))]])
                                    (.ask (.bin .eql (.v 0) (.ki .i64 (.ofNat 6)))
                                      (.done [[(.ki .i64 (.ofNat 1))], [(.ki .i64 (.ofNat 0))]])
                                      (.done [[(.ki .i64 (.ofNat 0))], [(.ki .i64 (.ofNat 0))]])))
                                  (.done [[(.ki .i64 (.ofNat 1))], [(.ki .i64 (.ofNat 0))]]))
                                (.ask (.bin .eql (.v 0) (.ki .i64 (.ofNat 5)))
                                  (.ask (.bin .lss (.ki .i64 (.ofNat 0)) (.at (.app 13 [(.v 1), (.v 2), (.v 3), (.v 4), (.v 5), (.v 6)]) (.ki .i64 (.ofNat 0)) 0))
                                    (.done [[(.ki .i64 (.ofNat 1))], [(.ki .i64 (.ofNat 0))]])
                                    (.ask (.bin .eql (.v 0) (.ki .i64 (.ofNat 6)))
                                      (.done [[(.ki .i64 (.ofNat 1))], [(.ki .i64 (.ofNat 0))]])
                                      (.done [[(.ki .i64 (.ofNat 0))], [(.ki .i64 (.ofNat 0))]])))
                                  (.ask (.bin .eql (.v 0) (.ki .i64 (.ofNat 6)))
                                    (.done [[(.ki .i64 (.ofNat 1))], [(.ki .i64 (.ofNat 0))]])
                                    (.done [[(.ki .i64 (.ofNat 0))], [(.ki .i64 (.ofNat 0))]])))))
                            (.ask (.bin .eql (.v 0) (.ki .i64 (.ofNat 4)))
                              (.ask (.bin .lss (.ki .i64 (.ofNat 0)) (.at (.app 13 [(.v 1), (.v 2), (.v 3), (.v 4), (.v 5), (.v 6)]) (.ki .i64 (.ofNat 0)) 0))
                                (.ask (.bin .eql (.v 0) (.ki .i64 (.ofNat 5)))
                                  (.done [[(.ki .i64 (.ofNat 1))], [(.ki .i64 (.ofNat 0))]])
                                  (.ask (.bin .eql (.v 0) (.ki .i64 (.ofNat 6)))
                                    (.ask (.bin .lss (.at (.app 13 [(.v 1), (.v 2), (.v 3), (.v 4), (.v 5), (.v 6)]) (.ki .i64 (.ofNat 0)) 0) (.ki .i64 (.ofNat 0)))
                                      (.done [[(.ki .i64 (.ofNat 0))], [(.ki .i64 (.ofNat 0))]])
                                      (.done [[(.ki .i64 (.ofNat 1))], [(.ki .i64 (.ofNat 0))]]))
                                    (.done [[(.ki .i64 (.ofNat 0))], [(.ki .i64 (.ofNat 0))]])))
                                (.done [[(.ki .i64 (.ofNat 1))], [(.ki .i64 (.ofNat 0))]]))
                              (.ask (.bin .eql (.v 0) (.ki .i64 (.ofNat 5)))
                                (.ask (.bin .lss (.ki .i64 (.ofNat 0)) (.at (.app 13 [(.v 1), (.v 2), (.v 3), (.v 4), (.v 5), (.v 6)]) (.ki .i64 (.ofNat 0)) 0))
                                  (.done [[(.ki .i64 (.ofNat 1))], [(.ki .i64 (.ofNat 0))]])
                                  (.ask (.bin .eql (.v 0) (.ki .i64 (.ofNat 6)))
                                    (.ask (.bin .lss (.at (.app 13 [(.v 1), (.v 2), (.v 3), (.v 4), (.v 5), (.v 6)]) (.ki .i64 (.ofNat 0)) 0) (.ki .i64 (.ofNat 0)))
                                      (.done [[(.ki .i64 (.ofNat 0))], [(.ki .i64 (.ofNat 0))]])
                                      (.done [[(.ki .i64 (.ofNat 1))], [(.ki .i64 (.ofNat 0))]]))
                                    (.done [[(.ki .i64 (.ofNat 0))], [(.ki .i64 (.ofNat 0))]])))
                                (.ask (.bin .eql (.v 0) (.ki .i64 (.ofNat 6)))
                                  (.ask (.bin .lss (.at (.app 13 [(.v 1), (.v 2), (.v 3), (.v 4), (.v 5), (.v 6)]) (.ki .i64 (.ofNat 0)) 0) (.ki .i64 (.ofNat 0)))
                                    (.done [[(.ki .i64 (.ofNat 0))], [(.ki .i64 (.ofNat 0))]])
                                    (.done [[(.ki .i64 (.ofNat 1))], [(.ki .i64 (.ofNat 0))]]))
                                  (.done [[(.ki .i64 (.ofNat 0))], [(.ki .i64 (.ofNat 0))]])))))))
                      (.ask (.bin .eql (.v 0) (.ki .i64 (.ofNat 2)))
                        (.ask (.bin .eql (.at (.app 13 [(.v 1), (.v 2), (.v 3), (.v 4), (.v 5), (.v 6)]) (.ki .i64 (.ofNat 0)) 0) (.ki .i64 (.ofNat 0)))
                          (.ask (.bin .eql (.v 0) (.ki .i64 (.ofNat 3)))
                            (.ask (.bin .lss (.at (.app 13 [(.v 1), (.v 2), (.v 3), (.v 4), (.v 5), (.v 6)]) (.ki .i64 (.ofNat 0)) 0) (.ki .i64 (.ofNat 0)))
                              (.done [[(.ki .i64 (.ofNat 1))], [(.ki .i64 (.ofNat 0))]])
                              (.ask (.bin .eql (.v 0) (.ki .i64 (.ofNat 4)))
                                (.ask (.bin .lss (.ki .i64 (.ofNat 0)) (.at (.app 13 [(.v 1), (.v 2), (.v 3), (.v 4), (.v 5), (.v 6)]) (.ki .i64 (.ofNat 0)) 0))
                                  (.ask (.bin .eql (.v 0) (.ki .i64 (.ofNat 5)))
                                    (.done [[(.ki .i64 (.ofNat 1))], [(.ki .i64 (.ofNat 0))]])
                                    (.ask (.bin .eql (.v 0) (.ki .i64 (.ofNat 6)))
                                      (.done [[(.ki .i64 (.ofNat 1))], [(.ki .i64 (.ofNat 0))]])
                                      (.done [[(.ki .i64 (.ofNat 0))], [(.ki .i64 (.ofNat 0))]])))
                                  (.done [[(.ki .i64 (.ofNat 1))], [(.ki .i64 (.ofNat 0))]]))
                                (.ask (.bin .eql (.v 0) (.ki .i64 (.ofNat 5)))
                                  (.ask (.bin .lss (.ki .i64 (.ofNat 0)) (.at (.app 13 [(.v 1), (.v 2), (.v 3), (.v 4), (.v 5), (.v 6)]) (.ki .i64 (.ofNat 0)) 0))
                                    (.done [[(.ki .i64 (.ofNat 1))], [(.ki .i64 (.ofNat 0))]])
                                    (.ask (.bin .eql (.v 0) (.ki .i64 (.ofNat 6)))
                                      (.done [[(.ki .i64 (.ofNat 1))], [(.ki .i64 (.ofNat 0))]])
                                      (.done [[(.ki .i64 (.ofNat 0))], [(.ki .i64 (.ofNat 0))]])))
                                  (.ask (.bin .eql (.v 0) (.ki .i64 (.ofNat 6)))
                                    (.done [[(.ki .i64 (.ofNat 1))], [(.ki .i64 (.ofNat 0))]])
                                    (.done [[(.ki .i64 (.ofNat 0))], [(.ki .i64 (.ofNat 0))]])))))
                            (.ask (.bin .eql (.v 0) (.ki .i64 (.ofNat 4)))
                              (.ask (.bin .lss (.ki .i64 (.ofNat 0)) (.at (.app 13 [(.v 1), (.v 2), (.v 3), (.v 4), (.v 5), (.v 6)]) (.ki .i64 (.ofNat 0)) 0))
                                (.ask (.bin .eql (.v 0) (.ki .i64 (.ofNat 5)))
                                  (.done [[(.ki .i64 (.ofNat 1))], [(.ki .i64 (.ofNat 0))]])
                                  (.ask (.bin .eql (.v 0) (.ki .i64 (.ofNat 6)))
                                    (.ask (.bin .lss (.at (.app 13 [(.v 1), (.v 2), (.v 3), (.v 4), (.v 5), (.v 6)]) (.ki .i64 (.ofNat 0)) 0) (.ki .i64 (.ofNat 0)))
                                      (.done [[(.ki .i64 (.ofNat 0))], [(.ki .i64 (.ofNat 0))]])
                                      (.done [[(.ki .i64 (.ofNat 1))], [(.ki .i64 (.ofNat 0))]]))
                                    (.done [[(.ki .i64 (.ofNat 0))], [(.ki .i64 (.ofNat 0))]])))
                                (.done [[(.ki .i64 (.ofNat 1))], [(.ki .i64 (.ofNat 0))]]))
                              (.ask (.bin .eql (.v 0) (.ki .i64 (.ofNat 5)))
                                (.ask (.bin .lss (.ki .i64 (.ofNat 0)) (.at (.app 13 [(.v 1), (.v 2), (.v 3), (.v 4), (.v 5), (.v 6)]) (.ki .i64 (.ofNat 0)) 0))
                                  (.done [[(.ki .i64 (.ofNat 1))], [(.ki .i64 (.ofNat 0))]])
                                  (.ask (.bin .eql (.v 0) (.ki .i64 (.ofNat 6)))
                                    (.ask (.bin .lss (.at (.app 13 [(.v 1), (.v 2), (.v 3), (.v 4), (.v 5), (.v 6)]) (.ki .i64 (.ofNat 0)) 0) (.ki .i64 (.ofNat 0)))
                                      (.done [[(.ki .i64 (.ofNat 0))], [(.ki .i64 (.ofNat 0))]])
                                      (.done [[(.ki .i64 (.ofNat 1))], [(.ki .i64 (.ofNat 0))]]))
                                    (.done [[(.ki .i64 (.ofNat 0))], [(.ki .i64 (.ofNat 0))]])))
                                (.ask (.bin .eql (.v 0) (.ki .i64 (.ofNat 6)))
                                  (.ask (.bin .lss (.at (.app 13 [(.v 1), (.v 2), (.v 3), (.v 4), (.v 5), (.v 6)]) (.ki .i64 (.ofNat 0)) 0) (.ki .i64 (.ofNat 0)))
                                    (.done [[(.ki .i64 (.ofNat 0))], [(.ki .i64 (.ofNat 0))]])
                                    (.done [[(.ki .i64 (.ofNat 1))], [(.ki .i64 (.ofNat 0))]]))
                                  (.done [[(.ki .i64 (.ofNat 0))], [(.ki .i64 (.ofNat 0))]])))))
                          (.done [[(.ki .i64 (.ofNat 1))], [(.ki .i64 (.ofNat 0))]]))
                        (.ask (.bin .eql (.v 0) (.ki .i64 (.ofNat 3)))
                          (.ask (.bin .lss (.at (.app 13 [(.v 1), (.v 2), (.v 3), (.v 4), (.v 5), (.v 6)]) (.ki .i64 (.ofNat 0)) 0) (.ki .i64 (.ofNat 0)))
                            (.done [[(.ki .i64 (.ofNat 1))], [(.ki .i64 (.ofNat 0))]])
                            (.ask (.bin .eql (.v 0) (.ki .i64 (.ofNat 4)))
                              (.ask (.bin .lss (.ki .i64 (.ofNat 0)) (.at (.app 13 [(.v 1), (.v 2), (.v 3), (.v 4), (.v 5), (.v 6)]) (.ki .i64 (.ofNat 0)) 0))
                                (.ask (.bin .eql (.v 0) (.ki .i64 (.ofNat 5)))
                                  (.done [[(.ki .i64 (.ofNat 1))], [(.ki .i64 (.ofNat 0))]])
                                  (.ask (.bin .eql (.v 0) (.ki .i64 (.ofNat 6)))
                                    (.done [[(.ki .i64 (.ofNat 1))], [(.ki .i64 (.ofNat 0))]])
                                    (.done [[(.ki .i64 (.ofNat 0))], [(.ki .i64 (.ofNat 0))]])))
                                (.done [[(.ki .i64 (.ofNat 1))], [(.ki .i64 (.ofNat 0))]]))
                              (.ask (.bin .eql (.v 0) (.ki .i64 (.ofNat 5)))
                                (.ask (.bin .lss (.ki .i64 (.ofNat 0)) (.at (.app 13 [(.v 1), (.v 2), (.v 3), (.v 4), (.v 5), (.v 6)]) (.ki .i64 (.ofNat 0)) 0))
                                  (.done [[(.ki .i64 (.ofNat 1))], [(.ki .i64 (.ofNat 0))]])
                                  (.ask (.bin .eql (.v 0) (.ki .i64 (.ofNat 6)))
                                    (.done [[(.ki .i64 (.ofNat 1))], [(.ki .i64 (.ofNat 0))]])
                                    (.done [[(.ki .i64 (.ofNat 0))], [(.ki .i64 (.ofNat 0))]])))
                                (.ask (.bin .eql (.v 0) (.ki .i64 (.ofNat 6)))
                                  (.done [[(.ki .i64 (.ofNat 1))], [(.ki .i64 (.ofNat 0))]])
                                  (.done [[(.ki .i64 (.ofNat 0))], [(.ki .i64 (.ofNat 0))]])))))
                          (.ask (.bin .eql (.v 0) (.ki .i64 (.ofNat 4)))
                            (.ask (.bin .lss (.ki .i64 (.ofNat 0)) (.at (.app 13 [(.v 1), (.v 2), (.v 3), (.v 4), (.v 5), (.v 6)]) (.ki .i64 (.ofNat 0)) 0))
                              (.ask (.bin .eql (.v 0) (.ki .i64 (.ofNat 5)))
                                (.done [[(.ki .i64 (.ofNat 1))], [(.ki .i64 (.ofNat 0))]])
                                (.ask (.bin .eql (.v 0) (.ki .i64 (.ofNat 6)))
                                  (.ask (.bin .lss (.at (.app 13 [(.v 1), (.v 2), (.v 3), (.v 4), (.v 5), (.v 6)]) (.ki .i64 (.ofNat 0)) 0) (.ki .i64 (.ofNat 0)))
                                    (.done [[(.ki .i64 (.ofNat 0))], [(.ki .i64 (.ofNat 0))]])
                                    (.done [[(.ki .i64 (.ofNat 1))], [(.ki .i64 (.ofNat 0))]]))
                                  (.done [[(.ki .i64 (.ofNat 0))], [(.ki .i64 (.ofNat 0))]])))
                              (.done [[(.ki .i64 (.ofNat 1))], [(.ki .i64 (.ofNat 0))]]))
                            (.ask (.bin .eql (.v 0) (.ki .i64 (.ofNat 5)))
                              (.ask (.bin .lss (.ki .i64 (.ofNat 0)) (.at (.app 13 [(.v 1), (.v 2), (.v 3), (.v 4), (.v 5), (.v 6)]) (.ki .i64 (.ofNat 0)) 0))
                                (.done [[(.ki .i64 (.ofNat 1))], [(.ki .i64 (.ofNat 0))]])
                                (.ask (.bin .eql (.v 0) (.ki .i64 (.ofNat 6)))
                                  (.ask (.bin .lss (.at (.app 13 [(.v 1), (.v 2), (.v 3), (.v 4), (.v 5), (.v 6)]) (.ki .i64 (.ofNat 0)) 0) (.ki .i64 (.ofNat 0)))
                                    (.done [[(.ki .i64 (.ofNat 0))], [(.ki .i64 (.ofNat 0))]])
                                    (.done [[(.ki .i64 (.ofNat 1))], [(.ki .i64 (.ofNat 0))]]))
                                  (.done [[(.ki .i64 (.ofNat 0))], [(.ki .i64 (.ofNat 0))]])))
                              (.ask (.bin .eql (.v 0) (.ki .i64 (.ofNat 6)))
                                (.ask (.bin .lss (.at (.app 13 [(.v 1), (.v 2), (.v 3), (.v 4), (.v 5), (.v 6)]) (.ki .i64 (.ofNat 0)) 0) (.ki .i64 (.ofNat 0)))
                                  (.done [[(.ki .i64 (.ofNat 0))], [(.ki .i64 (.ofNat 0))]])
                                  (.done [[(.ki .i64 (.ofNat 1))], [(.ki .i64 (.ofNat 0))]]))
                                (.done [[(.ki .i64 (.ofNat 0))], [(.ki .i64 (.ofNat 0))]]))))))))
                  (.ask (.bin .eql (.v 0) (.ki .i64 (.ofNat 1)))
                    (.ask (.bin .eql (.at (.app 13 [(.v 1), (.v 2), (.v 3), (.v 4), (.v 5), (.v 6)]) (.ki .i64 (.ofNat 0)) 0) (.ki .i64 (.ofNat 0)))
                      (.done [[(.ki .i64 (.ofNat 1))], [(.ki .i64 (.ofNat 0))]])
                      (.ask (.bin .eql (.v 0) (.ki .i64 (.ofNat 2)))
                        (.done [[(.ki .i64 (.ofNat 1))], [(.ki .i64 (.ofNat 0))]])
                        (.ask (.bin .eql (.v 0) (.ki .i64 (.ofNat 3)))
                          (.ask (.bin .lss (.at (.app 13 [(.v 1), (.v 2), (.v 3), (.v 4), (.v 5), (.v 6)]) (.ki .i64 (.ofNat 0)) 0) (.ki .i64 (.ofNat 0)))
                            (.done [[(.ki .i64 (.ofNat 1))], [(.ki .i64 (.ofNat 0))]])
                            (.ask (.bin .eql (.v 0) (.ki .i64 (.ofNat 4)))
                              (.ask (.bin .lss (.ki .i64 (.ofNat 0)) (.at (.app 13 [(.v 1), (.v 2), (.v 3), (.v 4), (.v 5), (.v 6)]) (.ki .i64 (.ofNat 0)) 0))
                                (.ask (.bin .eql (.v 0) (.ki .i64 (.ofNat 5)))
                                  (.done [[(.ki .i64 (.ofNat 1))], [(.ki .i64 (.ofNat 0))]])
                                  (.ask (.bin .eql (.v 0) (.ki .i64 (.ofNat 6)))
                                    (.done [[(.ki .i64 (.ofNat 1))], [(.ki .i64 (.ofNat 0))]])
                                    (.done [[(.ki .i64 (.ofNat 0))], [(.ki .i64 (.ofNat 0))]])))
                                (.done [[(.ki .i64 (.ofNat 1))], [(.ki .i64 (.ofNat 0))]]))
                              (.ask (.bin .eql (.v 0) (.ki .i64 (.ofNat 5)))
                                (.ask (.bin .lss (.ki .i64 (.ofNat 0)) (.at (.app 13 [(.v 1), (.v 2), (.v 3), (.v 4), (.v 5), (.v 6)]) (.ki .i64 (.ofNat 0)) 0))
                                  (.done [[(.ki .i64 (.ofNat 1))], [(.ki .i64 (.ofNat 0))]])
                                  (.ask (.bin .eql (.v 0) (.ki .i64 (.ofNat 6)))
                                    (.done [[(.ki .i64 (.ofNat 1))], [(.ki .i64 (.ofNat 0))]])
                                    (.done [[(.ki .i64 (.ofNat 0))], [(.ki .i64 (.ofNat 0))]])))
                                (.ask (.bin .eql (.v 0) (.ki .i64 (.ofNat 6)))
                                  (.done [[(.ki .i64 (.ofNat 1))], [(.ki .i64 (.ofNat 0))]])
                                  (.done [[(.ki .i64 (.ofNat 0))], [(.ki .i64 (.ofNat 0))]])))))
                          (.ask (.bin .eql (.v 0) (.ki .i64 (.ofNat 4)))
                            (.ask (.bin .lss (.ki .i64 (.ofNat 0)) (.at (.app 13 [(.v 1), (.v 2), (.v 3), (.v 4), (.v 5), (.v 6)]) (.ki .i64 (.ofNat 0)) 0))
                              (.ask (.bin .eql (.v 0) (.ki .i64 (.ofNat 5)))
                                (.done [[(.ki .i64 (.ofNat 1))], [(.ki .i64 (.ofNat 0))]])
                                (.ask (.bin .eql (.v 0) (.ki .i64 (.ofNat 6)))
                                  (.ask (.bin .lss (.at (.app 13 [(.v 1), (.v 2), (.v 3), (.v 4), (.v 5), (.v 6)]) (.ki .i64 (.ofNat 0)) 0) (.ki .i64 (.ofNat 0)))
                                    (.done [[(.ki .i64 (.ofNat 0))], [(.ki .i64 (.ofNat 0))]])
                                    (.done [[(.ki .i64 (.ofNat 1))], [(.ki .i64 (.ofNat 0))]]))
                                  (.done [[(.ki .i64 (.ofNat 0))], [(.ki .i64 (.ofNat 0))]])))
                              (.done [[(.ki .i64 (.ofNat 1))], [(.ki .i64 (.ofNat 0))]]))
                            (.ask (.bin .eql (.v 0) (.ki .i64 (.ofNat 5)))
                              (.ask (.bin .lss (.ki .i64 (.ofNat 0)) (.at (.app 13 [(.v 1), (.v 2), (.v 3), (.v 4), (.v 5), (.v 6)]) (.ki .i64 (.ofNat 0)) 0))
                                (.done [[(.ki .i64 (.ofNat 1))], [(.ki .i64 (.ofNat 0))]])
                                (.ask (.bin .eql (.v 0) (.ki .i64 (.ofNat 6)))
                                  (.ask (.bin .lss (.at (.app 13 [(.v 1), (.v 2), (.v 3), (.v 4), (.v 5), (.v 6)]) (.ki .i64 (.ofNat 0)) 0) (.ki .i64 (.ofNat 0)))
                                    (.done [[(.ki .i64 (.ofNat 0))], [(.ki .i64 (.ofNat 0))]])
                                    (.done [[(.ki .i64 (.ofNat 1))], [(.ki .i64 (.ofNat 0))]]))
                                  (.done [[(.ki .i64 (.ofNat 0))], [(.ki .i64 (.ofNat 0))]])))
                              (.ask (.bin .eql (.v 0) (.ki .i64 (.ofNat 6)))
                                (.ask (.bin .lss (.at (.app 13 [(.v 1), (.v 2), (.v 3), (.v 4), (.v 5), (.v 6)]) (.ki .i64 (.ofNat 0)) 0) (.ki .i64 (.ofNat 0)))
                                  (.done [[(.ki .i64 (.ofNat 0))], [(.ki .i64 (.ofNat 0))]])
                                  (.done [[(.ki .i64 (.ofNat 1))], [(.ki .i64 (.ofNat 0))]]))
                                (.done [[(.ki .i64 (.ofNat 0))], [(.ki .i64 (.ofNat 0))]])))))))
                    (.ask (.bin .eql (.v 0) (.ki .i64 (.ofNat 2)))
                      (.ask (.bin .eql (.at (.app 13 [(.v 1), (.v 2), (.v 3), (.v 4), (.v 5), (.v 6)]) (.ki .i64 (.ofNat 0)) 0) (.ki .i64 (.ofNat 0)))
                        (.ask (.bin .eql (.v 0) (.ki .i64 (.ofNat 3)))
                          (.ask (.bin .lss (.at (.app 13 [(.v 1), (.v 2), (.v 3), (.v 4), (.v 5), (.v 6)]) (.ki .i64 (.ofNat 0)) 0) (.ki .i64 (.ofNat 0)))
                            (.done [[(.ki .i64 (.ofNat 1))], [(.ki .i64 (.ofNat 0))]])
                            (.ask (.bin .eql (.v 0) (.ki .i64 (.ofNat 4)))
                              (.ask (.bin .lss (.ki .i64 (.ofNat 0)) (.at (.app 13 [(.v 1), (.v 2), (.v 3), (.v 4), (.v 5), (.v 6)]) (.ki .i64 (.ofNat 0)) 0))
                                (.ask (.bin .eql (.v 0) (.ki .i64 (.ofNat 5)))
                                  (.done [[(.ki .i64 (.ofNat 1))], [(.ki .i64 (.ofNat 0))]])
                                  (.ask (.bin .eql (.v 0) (.ki .i64 (.ofNat 6)))
                                    (.done [[(.ki .i64 (.ofNat 1))], [(.ki .i64 (.ofNat 0))]])
                                    (.done [[(.ki .i64 (.ofNat 0))], [(.ki .i64 (.ofNat 0))]])))
                                (.done [[(.ki .i64 (.ofNat 1))], [(.ki .i64 (.ofNat 0))]]))
                              (.ask (.bin .eql (.v 0) (.ki .i64 (.ofNat 5)))
                                (.ask (.bin .lss (.ki .i64 (.ofNat 0)) (.at (.app 13 [(.v 1), (.v 2), (.v 3), (.v 4), (.v 5), (.v 6)]) (.ki .i64 (.ofNat 0)) 0))
                                  (.done [[(.ki .i64 (.ofNat 1))], [(.ki .i64 (.ofNat 0))]])
                                  (.ask (.bin .eql (.v 0) (.ki .i64 (.ofNat 6)))
                                    (.done [[(.ki .i64 (.ofNat 1))], [(.ki .i64 (.ofNat 0))]])
                                    (.done [[(.ki .i64 (.ofNat 0))], [(.ki .i64 (.ofNat 0))]])))
                                (.ask (.bin .eql (.v 0) (.ki .i64 (.ofNat 6)))
                                  (.done [[(.ki .i64 (.ofNat 1))], [(.ki .i64 (.ofNat 0))]])
                                  (.done [[(.ki .i64 (.ofNat 0))], [(.ki .i64 (.ofNat 0))]])))))
                          (.ask (.bin .eql (.v 0) (.ki .i64 (.ofNat 4)))
                            (.ask (.bin .lss (.ki .i64 (.ofNat 0)) (.at (.app 13 [(.v 1), (.v 2), (.v 3), (.v 4), (.v 5), (.v 6)]) (.ki .i64 (.ofNat 0)) 0))
                              (.ask (.bin .eql (.v 0) (.ki .i64 (.ofNat 5)))
                                (.done [[(.ki .i64 (.ofNat 1))], [(.ki .i64 (.ofNat 0))]])
                                (.ask (.bin .eql (.v 0) (.ki .i64 (.ofNat 6)))
                                  (.ask (.bin .lss (.at (.app 13 [(.v 1), (.v 2), (.v 3), (.v 4), (.v 5), (.v 6)]) (.ki .i64 (.ofNat 0)) 0) (.ki .i64 (.ofNat 0)))
                                    (.done [[(.ki .i64 (.ofNat 0))], [(.ki .i64 (.ofNat 0))]])
                                    (.done [[(.ki .i64 (.ofNat 1))], [(.ki .i64 (.ofNat 0))]]))
                                  (.done [[(.ki .i64 (.ofNat 0))], [(.ki .i64 (.ofNat 0))]])))
                              (.done [[(.ki .i64 (.ofNat 1))], [(.ki .i64 (.ofNat 0))]]))
                            (.ask (.bin .eql (.v 0) (.ki .i64 (.ofNat 5)))
                              (.ask (.bin .lss (.ki .i64 (.ofNat 0)) (.at (.app 13 [(.v 1), (.v 2), (.v 3), (.v 4), (.v 5), (.v 6)]) (.ki .i64 (.ofNat 0)) 0))
                                (.done [[(.ki .i64 (.ofNat 1))], [(.ki .i64 (.ofNat 0))]])
                                (.ask (.bin .eql (.v 0) (.ki .i64 (.ofNat 6)))
                                  (.ask (.bin .lss (.at (.app 13 [(.v 1), (.v 2), (.v 3), (.v 4), (.v 5), (.v 6)]) (.ki .i64 (.ofNat 0)) 0) (.ki .i64 (.ofNat 0)))
                                    (.done [[(.ki .i64 (.ofNat 0))], [(.ki .i64 (.ofNat 0))]])
                                    (.done [[(.ki .i64 (.ofNat 1))], [(.ki .i64 (.ofNat 0))]]))
                                  (.done [[(.ki .i64 (.ofNat 0))], [(.ki .i64 (.ofNat 0))]])))
                              (.ask (.bin .eql (.v 0) (.ki .i64 (.ofNat 6)))
                                (.ask (.bin .lss (.at (.app 13 [(.v 1), (.v 2), (.v 3), (.v 4), (.v 5), (.v 6)]) (.ki .i64 (.ofNat 0)) 0) (.ki .i64 (.ofNat 0)))
                                  (.done [[(.ki .i64 (.ofNat 0))], [(.ki .i64 (.ofNat 0))]])
                                  (.done [[(.ki .i64 (.ofNat 1))], [(.ki .i64 (.ofNat 0))]]))
                                (.done [[(.ki .i64 (.ofNat 0))], [(.ki .i64 (.ofNat 0))]])))))
                        (.done [[(.ki .i64 (.ofNat 1))], [(.ki .i64 (.ofNat 0))]]))
                      (.ask (.bin .eql (.v 0) (.ki .i64 (.ofNat 3)))
                        (.ask (.bin .lss (.at (.app 13 [(.v 1), (.v 2), (.v 3), (.v 4), (.v 5), (.v 6)]) (.ki .i64 (.ofNat 0)) 0) (.ki .i64 (.ofNat 0)))
                          (.done [[(.ki .i64 (.ofNat 1))], [(.ki .i64 (.ofNat 0))]])
                          (.ask (.bin .eql (.v 0) (.ki .i64 (.ofNat 4)))
                            (.ask (.bin .lss (.ki .i64 (.ofNat 0)) (.at (.app 13 [(.v 1), (.v 2), (.v 3), (.v 4), (.v 5), (.v 6)]) (.ki .i64 (.ofNat 0)) 0))
                              (.ask (.bin .eql (.v 0) (.ki .i64 (.ofNat 5)))
                                (.done [[(.ki .i64 (.ofNat 1))], [(.ki .i64 (.ofNat 0))]])
                                (.ask (.bin .eql (.v 0) (.ki .i64 (.ofNat 6)))
                                  (.done [[(.ki .i64 (.ofNat 1))], [(.ki .i64 (.ofNat 0))]])
                                  (.done [[(.ki .i64 (.ofNat 0))], [(.ki .i64 (.ofNat 0))]])))
                              (.done [[(.ki .i64 (.ofNat 1))], [(.ki .i64 (.ofNat 0))]]))
                            (.ask (.bin .eql (.v 0) (.ki .i64 (.ofNat 5)))
                              (.ask (.bin .lss (.ki .i64 (.ofNat 0)) (.at (.app 13 [(.v 1), (.v 2), (.v 3), (.v 4), (.v 5), (.v 6)]) (.ki .i64 (.ofNat 0)) 0))
                                (.done [[(.ki .i64 (.ofNat 1))], [(.ki .i64 (.ofNat 0))]])
                                (.ask (.bin .eql (.v 0) (.ki .i64 (.ofNat 6)))
                                  (.done [[(.ki .i64 (.ofNat 1))], [(.ki .i64 (.ofNat 0))]])
                                  (.done [[(.ki .i64 (.ofNat 0))], [(.ki .i64 (.ofNat 0))]])))
                              (.ask (.bin .eql (.v 0) (.ki .i64 (.ofNat 6)))
                                (.done [[(.ki .i64 (.ofNat 1))], [(.ki .i64 (.ofNat 0))]])
                                (.done [[(.ki .i64 (.ofNat 0))], [(.ki .i64 (.ofNat 0))]])))))
                        (.ask (.bin .eql (.v 0) (.ki .i64 (.ofNat 4)))
                          (.ask (.bin .lss (.ki .i64 (.ofNat 0)) (.at (.app 13 [(.v 1), (.v 2), (.v 3), (.v 4), (.v 5), (.v 6)]) (.ki .i64 (.ofNat 0)) 0))
                            (.ask (.bin .eql (.v 0) (.ki .i64 (.ofNat 5)))
                              (.done [[(.ki .i64 (.ofNat 1))], [(.ki .i64 (.ofNat 0))]])
                              (.ask (.bin .eql (.v 0) (.ki .i64 (.ofNat 6)))
                                (.ask (.bin .lss (.at (.app 13 [(.v 1), (.v 2), (.v 3), (.v 4), (.v 5), (.v 6)]) (.ki .i64 (.ofNat 0)) 0) (.ki .i64 (.ofNat 0)))
                                  (.done [[(.ki .i64 (.ofNat 0))], [(.ki .i64 (.ofNat 0))]])
                                  (.done [[(.ki .i64 (.ofNat 1))], [(.ki .i64 (.ofNat 0))]]))
                                (.done [[(.ki .i64 (.ofNat 0))], [(.ki .i64 (.ofNat 0))]])))
                            (.done [[(.ki .i64 (.ofNat 1))], [(.ki .i64 (.ofNat 0))]]))
                          (.ask (.bin .eql (.v 0) (.ki .i64 (.ofNat 5)))
                            (.ask (.bin .lss (.ki .i64 (.ofNat 0)) (.at (.app 13 [(.v 1), (.v 2), (.v 3), (.v 4), (.v 5), (.v 6)]) (.ki .i64 (.ofNat 0)) 0))
                              (.done [[(.ki .i64 (.ofNat 1))], [(.ki .i64 (.ofNat 0))]])
                              (.ask (.bin .eql (.v 0) (.ki .i64 (.ofNat 6)))
                                (.ask (.bin .lss (.at (.app 13 [(.v 1), (.v 2), (.v 3), (.v 4), (.v 5), (.v 6)]) (.ki .i64 (.ofNat 0)) 0) (.ki .i64 (.ofNat 0)))
                                  (.done [[(.ki .i64 (.ofNat 0))], [(.ki .i64 (.ofNat 0))]])
                                  (.done [[(.ki .i64 (.ofNat 1))], [(.ki .i64 (.ofNat 0))]]))
                                (.done [[(.ki .i64 (.ofNat 0))], [(.ki .i64 (.ofNat 0))]])))
                            (.ask (.bin .eql (.v 0) (.ki .i64 (.ofNat 6)))
                              (.ask (.bin .lss (.at (.app 13 [(.v 1), (.v 2), (.v 3), (.v 4), (.v 5), (.v 6)]) (.ki .i64 (.ofNat 0)) 0) (.ki .i64 (.ofNat 0)))
                                (.done [[(.ki .i64 (.ofNat 0))], [(.ki .i64 (.ofNat 0))]])
                                (.done [[(.ki .i64 (.ofNat 1))], [(.ki .i64 (.ofNat 0))]]))
                              (.done [[(.ki .i64 (.ofNat 0))], [(.ki .i64 (.ofNat 0))]]))))))))
                (.done [[(.ki .i64 (.ofNat 0))], [(.ki .i64 (.ofNat 153))]]))))
          (.done [[(.ki .i64 (.ofNat 0))], [(.ki .i64 (.ofNat 150))]]))
        (.done [[(.ki .i64 (.ofNat 0))], [(.ki .i64 (.ofNat 150))]]))))
theorem kRtest : (hasB 48 && checkPlan [.one tI, .one tI] (runI theI (entS [eRg, eCr]) [] [] 48 [.one tI, .agg tV, .agg tV]) [] pRtest) = true := by kernel_rfl
theorem fnRtest : FnOK Tryz.prog G 48 [.one tI, .agg tV, .agg tV] [.one tI, .one tI] (fun _ => True) Ftest := by
  have hk := kRtest
  rw [Bool.and_eq_true] at hk
  refine fn_run (entS_ok eRt_ok) [] [] noLoops hk.1 pRtest hk.2 ?_
  intro ds h _
  obtain ⟨o, ka, na, sa, kb, nb, sb, rfl, _⟩ := ovv_of h
  have e0 : (rhoOf theI ([[DV.int .i64 o], [DV.int .i64 ka, DV.int .i64 na, DV.str sa], [DV.int .i64 kb, DV.int .i64 nb, DV.str sb]] : List (List DV)).flatten).ρ 0 = DV.int .i64 o := rfl
  have e1 : (rhoOf theI ([[DV.int .i64 o], [DV.int .i64 ka, DV.int .i64 na, DV.str sa], [DV.int .i64 kb, DV.int .i64 nb, DV.str sb]] : List (List DV)).flatten).ρ 1 = DV.int .i64 ka := rfl
  have e2 : (rhoOf theI ([[DV.int .i64 o], [DV.int .i64 ka, DV.int .i64 na, DV.str sa], [DV.int .i64 kb, DV.int .i64 nb, DV.str sb]] : List (List DV)).flatten).ρ 2 = DV.int .i64 na := rfl
  have e3 : (rhoOf theI ([[DV.int .i64 o], [DV.int .i64 ka, DV.int .i64 na, DV.str sa], [DV.int .i64 kb, DV.int .i64 nb, DV.str sb]] : List (List DV)).flatten).ρ 3 = DV.str sa := rfl
  have e4 : (rhoOf theI ([[DV.int .i64 o], [DV.int .i64 ka, DV.int .i64 na, DV.str sa], [DV.int .i64 kb, DV.int .i64 nb, DV.str sb]] : List (List DV)).flatten).ρ 4 = DV.int .i64 kb := rfl
  have e5 : (rhoOf theI ([[DV.int .i64 o], [DV.int .i64 ka, DV.int .i64 na, DV.str sa], [DV.int .i64 kb, DV.int .i64 nb, DV.str sb]] : List (List DV)).flatten).ρ 5 = DV.int .i64 nb := rfl
  have e6 : (rhoOf theI ([[DV.int .i64 o], [DV.int .i64 ka, DV.int .i64 na, DV.str sa], [DV.int .i64 kb, DV.int .i64 nb, DV.str sb]] : List (List DV)).flatten).ρ 6 = DV.str sb := rfl
  have hI : (rhoOf theI ([[DV.int .i64 o], [DV.int .i64 ka, DV.int .i64 na, DV.str sa], [DV.int .i64 kb, DV.int .i64 nb, DV.str sb]] : List (List DV)).flatten).I = theI := rfl
  generalize rhoOf theI ([[DV.int .i64 o], [DV.int .i64 ka, DV.int .i64 na, DV.str sa], [DV.int .i64 kb, DV.int .i64 nb, DV.str sb]] : List (List DV)).flatten = R at *
  simp only [pRtest, goalPlan, den, den.denL, den.denAll, e0, e1, e2, e3, e4, e5, e6, hI, binD, lenD, notD, atD, i12, i13, Fright, FvCmp, Ftest, testV, bothZ, iD, sD, List.flatten_cons, List.flatten_nil, List.append_nil, List.cons_append, List.nil_append, List.getD_cons_zero, List.getD_cons_succ, List.map_cons, List.map_nil, List.getD_nil, Int.toNat_zero, DV.bool.injEq, decide_eq_true_eq, decide_eq_false_iff_not, exists_eq', true_and, decide_true, Bool.true_and, k0, k1, km1]
  generalize valOK ka na sa.size = A at *
  generalize valOK kb nb sb.size = B at *
  generalize cmpV ka na sa kb nb sb = C at *
  repeat' (first | (intro _) | (apply And.intro))
  all_goals simp_all [testZ]
  all_goals (first | omega | ((repeat' split) <;> (first | omega | (exfalso; omega) | exact ⟨rfl, rfl⟩ | (simp_all; done))))

end Go.Proofs.YtholilpmihngaaaGreatDoor
namespace Go.Proofs.YtholilpmihngaaaGreatDoor
open Go Go.AM
/-! ### Or; sizes and signs; nodes -/
abbrev tU64 : Ty := .int .u64
noncomputable def eNt : Ent := eFn 131 [.one tI] [.one tI] [] 18
noncomputable def eAn : Ent := eFn 137 [.one tI, .one tI] [.one tI] [] 16
theorem eOr_ok : EntsOK Tryz.prog G theI [eAn, eNt] := ⟨eFn_ok plainG (pre_true fnAnd) (fun _ => rfl) [] (by kernel_rfl), eFn_ok plainG (pre_true fnNot) (fun _ => rfl) [] (by kernel_rfl), trivial⟩
theorem i16 (ds : List DV) : theI 16 ds = .list (Fand ds) := rfl
theorem i18 (ds : List DV) : theI 18 ds = .list (Fnot ds) := rfl
theorem or_and (a b : Int) : notZ (andZ (notZ a) (notZ b)) = orZ a b := by
  unfold orZ notZ andZ fairZ
  by_cases a0 : a = 0 <;> by_cases a1 : a = 1 <;> by_cases b0 : b = 0 <;> by_cases b1 : b = 1 <;> simp_all
theorem uub_of {ds : List (List DV)} (h : IsArgs [.one tU64, .one tU64, .one .bool] ds) : ∃ a b c, ds = [[.int .u64 a], [.int .u64 b], [.bool c]] ∧ (0 ≤ a ∧ a ≤ 18446744073709551615) ∧ (0 ≤ b ∧ b ≤ 18446744073709551615) := by
  simp only [IsArgs, IsOne] at h
  obtain ⟨_, _, rfl, ⟨d1, rfl, h1⟩, _, _, rfl, ⟨d2, rfl, h2⟩, _, _, rfl, ⟨d3, rfl, h3⟩, rfl⟩ := h
  obtain ⟨a, rfl, a1, a2⟩ := h1.int
  obtain ⟨b, rfl, b1, b2⟩ := h2.int
  obtain ⟨c, rfl⟩ := h3.bool
  exact ⟨a, b, c, rfl, ⟨a1, a2⟩, ⟨b1, b2⟩⟩
noncomputable def pSize : Pln :=
  (.ask (.bin .lss (.v 0) (.ki .i64 (.ofNat 0)))
    (.done [[(.bin .sub (.ki .u64 (.ofNat 0)) (.conv .u64 (.v 0)))]])
    (.done [[(.conv .u64 (.v 0))]]))
noncomputable def pSigned : Pln :=
  (.ask (.bin .lss (.ki .u64 (.ofNat 0)) (.v 0))
    (.done [[(.ki .i64 (.ofNat 0))], [(.kb false)]])
    (.ask (.v 2)
      (.ask (.bin .lss (.ki .u64 (.ofNat 9223372036854775808)) (.v 1))
        (.done [[(.ki .i64 (.ofNat 0))], [(.kb false)]])
        (.done [[(.conv .i64 (.bin .sub (.ki .u64 (.ofNat 0)) (.v 1)))], [(.kb true)]]))
      (.ask (.bin .lss (.v 1) (.ki .u64 (.ofNat 9223372036854775808)))
        (.done [[(.conv .i64 (.v 1))], [(.kb true)]])
        (.done [[(.ki .i64 (.ofNat 0))], [(.kb false)]]))))
noncomputable def pKids : Pln :=
  (.ask (.bin .eql (.v 0) (.ki .i64 (.ofNat 1)))
    (.done [[(.ki .i64 (.ofNat 0))]])
    (.ask (.bin .eql (.v 0) (.ki .i64 (.ofNat 2)))
      (.done [[(.ki .i64 (.ofNat 0))]])
      (.ask (.bin .eql (.v 0) (.ki .i64 (.ofNat 3)))
        (.done [[(.ki .i64 (.ofNat 1))]])
        (.ask (.bin .eql (.v 0) (.ki .i64 (.ofNat 4)))
          (.done [[(.ki .i64 (.ofNat 1))]])
          (.ask (.bin .eql (.v 0) (.ki .i64 (.ofNat 9)))
            (.done [[(.ki .i64 (.ofNat 1))]])
            (.ask (.bin .eql (.v 0) (.ki .i64 (.ofNat 10)))
              (.done [[(.ki .i64 (.ofNat 1))]])
              (.ask (.bin .eql (.v 0) (.ki .i64 (.ofNat 5)))
                (.done [[(.ki .i64 (.ofNat 2))]])
                (.ask (.bin .eql (.v 0) (.ki .i64 (.ofNat 6)))
                  (.done [[(.ki .i64 (.ofNat 2))]])
                  (.ask (.bin .eql (.v 0) (.ki .i64 (.ofNat 7)))
                    (.done [[(.ki .i64 (.ofNat 2))]])
                    (.ask (.bin .eql (.v 0) (.ki .i64 (.ofNat 8)))
                      (.done [[(.ki .i64 (.ofNat 2))]])
                      (.done [[(.ki .i64 (.negSucc 0))]])))))))))))
theorem kOr : (hasB 138 && checkPlan [.one tI] (runI theI (entS [eAn, eNt]) [] [] 138 [.one tI, .one tI]) [] pOrr) = true := by kernel_rfl
theorem fnOr : FnOK Tryz.prog G 138 [.one tI, .one tI] [.one tI] (fun _ => True) For := by
  have hk := kOr
  rw [Bool.and_eq_true] at hk
  refine fn_run (entS_ok eOr_ok) [] [] noLoops hk.1 pOrr hk.2 ?_
  intro ds h _
  obtain ⟨a, b, rfl, _⟩ := ii_of h
  have e0 : (rhoOf theI ([[DV.int .i64 a], [DV.int .i64 b]] : List (List DV)).flatten).ρ 0 = DV.int .i64 a := rfl
  have e1 : (rhoOf theI ([[DV.int .i64 a], [DV.int .i64 b]] : List (List DV)).flatten).ρ 1 = DV.int .i64 b := rfl
  have hI : (rhoOf theI ([[DV.int .i64 a], [DV.int .i64 b]] : List (List DV)).flatten).I = theI := rfl
  generalize rhoOf theI ([[DV.int .i64 a], [DV.int .i64 b]] : List (List DV)).flatten = R at *
  simp only [pOrr, goalPlan, den, den.denL, den.denAll, e0, e1, hI, binD, lenD, notD, atD, i16, i18, Fand, Fnot, For, iD, sD, List.flatten_cons, List.flatten_nil, List.append_nil, List.cons_append, List.nil_append, List.getD_cons_zero, List.getD_cons_succ, List.map_cons, List.map_nil, List.getD_nil, Int.toNat_zero, DV.bool.injEq, decide_eq_true_eq, decide_eq_false_iff_not, exists_eq', true_and, decide_true, Bool.true_and, k0, k1, km1]
  repeat' (first | (intro _) | (apply And.intro))
  all_goals simp_all [or_and]

theorem kSize : (hasB 87 && checkPlan [.one tU64] (runI theI (entS []) [] [] 87 [.one tI]) [] pSize) = true := by kernel_rfl
theorem fnSize : FnOK Tryz.prog G 87 [.one tI] [.one tU64] (fun _ => True) Fsize := by
  have hk := kSize
  rw [Bool.and_eq_true] at hk
  refine fn_run (entS_ok (show EntsOK Tryz.prog G theI [] from trivial)) [] [] noLoops hk.1 pSize hk.2 ?_
  intro ds h _
  obtain ⟨a, rfl, ha1, ha2⟩ := i_of h
  have e0 : (rhoOf theI ([[DV.int .i64 a]] : List (List DV)).flatten).ρ 0 = DV.int .i64 a := rfl
  have hI : (rhoOf theI ([[DV.int .i64 a]] : List (List DV)).flatten).I = theI := rfl
  generalize rhoOf theI ([[DV.int .i64 a]] : List (List DV)).flatten = R at *
  simp only [pSize, goalPlan, den, den.denL, den.denAll, e0, hI, binD, lenD, notD, atD, Fsize, convD, wrap_u64, iD, sD, List.flatten_cons, List.flatten_nil, List.append_nil, List.cons_append, List.nil_append, List.getD_cons_zero, List.getD_cons_succ, List.map_cons, List.map_nil, List.getD_nil, Int.toNat_zero, DV.bool.injEq, decide_eq_true_eq, decide_eq_false_iff_not, exists_eq', true_and, decide_true, Bool.true_and, k0, k1, km1]
  repeat' (first | (intro _) | (apply And.intro))
  all_goals simp_all []
  all_goals omega

theorem kKids : (hasB 127 && checkPlan [.one tI] (runI theI (entS []) [] [] 127 [.one tI]) [] pKids) = true := by kernel_rfl
theorem fnKids : FnOK Tryz.prog G 127 [.one tI] [.one tI] (fun _ => True) Fkids := by
  have hk := kKids
  rw [Bool.and_eq_true] at hk
  refine fn_run (entS_ok (show EntsOK Tryz.prog G theI [] from trivial)) [] [] noLoops hk.1 pKids hk.2 ?_
  intro ds h _
  obtain ⟨a, rfl, ha1, ha2⟩ := i_of h
  have e0 : (rhoOf theI ([[DV.int .i64 a]] : List (List DV)).flatten).ρ 0 = DV.int .i64 a := rfl
  have hI : (rhoOf theI ([[DV.int .i64 a]] : List (List DV)).flatten).I = theI := rfl
  generalize rhoOf theI ([[DV.int .i64 a]] : List (List DV)).flatten = R at *
  simp only [pKids, goalPlan, den, den.denL, den.denAll, e0, hI, binD, lenD, notD, atD, Fkids, iD, sD, List.flatten_cons, List.flatten_nil, List.append_nil, List.cons_append, List.nil_append, List.getD_cons_zero, List.getD_cons_succ, List.map_cons, List.map_nil, List.getD_nil, Int.toNat_zero, DV.bool.injEq, decide_eq_true_eq, decide_eq_false_iff_not, exists_eq', true_and, decide_true, Bool.true_and, k0, k1, km1]
  repeat' (first | (intro _) | (apply And.intro))
  all_goals simp_all [kidsZ]
  all_goals (first | omega | ((repeat' split) <;> (first | omega | (exfalso; omega) | exact ⟨rfl, rfl⟩ | (simp_all; done))))

theorem kSigned : (hasB 88 && checkPlan [.one tI, .one .bool] (runI theI (entS []) [] [] 88 [.one tU64, .one tU64, .one .bool]) [] pSigned) = true := by kernel_rfl
theorem fnSigned : FnOK Tryz.prog G 88 [.one tU64, .one tU64, .one .bool] [.one tI, .one .bool] (fun _ => True) Fsign := by
  have hk := kSigned
  rw [Bool.and_eq_true] at hk
  refine fn_run (entS_ok (show EntsOK Tryz.prog G theI [] from trivial)) [] [] noLoops hk.1 pSigned hk.2 ?_
  intro ds h _
  obtain ⟨a, b, c, rfl, ⟨ha1, ha2⟩, hb1, hb2⟩ := uub_of h
  have e0 : (rhoOf theI ([[DV.int .u64 a], [DV.int .u64 b], [DV.bool c]] : List (List DV)).flatten).ρ 0 = DV.int .u64 a := rfl
  have e1 : (rhoOf theI ([[DV.int .u64 a], [DV.int .u64 b], [DV.bool c]] : List (List DV)).flatten).ρ 1 = DV.int .u64 b := rfl
  have e2 : (rhoOf theI ([[DV.int .u64 a], [DV.int .u64 b], [DV.bool c]] : List (List DV)).flatten).ρ 2 = DV.bool c := rfl
  have hI : (rhoOf theI ([[DV.int .u64 a], [DV.int .u64 b], [DV.bool c]] : List (List DV)).flatten).I = theI := rfl
  generalize rhoOf theI ([[DV.int .u64 a], [DV.int .u64 b], [DV.bool c]] : List (List DV)).flatten = R at *
  simp only [pSigned, goalPlan, den, den.denL, den.denAll, e0, e1, e2, hI, binD, lenD, notD, atD, Fsign, bD, convD, wrap_u64, wr64, iD, sD, List.flatten_cons, List.flatten_nil, List.append_nil, List.cons_append, List.nil_append, List.getD_cons_zero, List.getD_cons_succ, List.map_cons, List.map_nil, List.getD_nil, Int.toNat_zero, DV.bool.injEq, decide_eq_true_eq, decide_eq_false_iff_not, exists_eq', true_and, decide_true, Bool.true_and, k0, k1, km1]
  repeat' (first | (intro _) | (apply And.intro))
  all_goals simp_all [signZ]
  all_goals (first | omega | ((repeat' split) <;> (first | omega | (exfalso; omega) | exact ⟨rfl, rfl⟩ | (simp_all; done) | (simp_all; omega))))

end Go.Proofs.YtholilpmihngaaaGreatDoor
