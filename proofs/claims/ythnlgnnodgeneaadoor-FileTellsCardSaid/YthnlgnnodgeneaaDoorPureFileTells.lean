/- FileTells: of any text of at most 200 bytes, whether it is a clean path, its URL and its folder's URL are the document's own answers (a longer one is only asked whether the law still tells right from wrong). For every input; nothing is assumed. -/
import Derived.Test.YthnlgnnodgeneaaDoorFilePure
namespace Go.Proofs.YthnlgnnodgeneaaDoor.Pure
open Go.RowKit Go.Proofs.YthnlgnnodgeneaaDoor.PF Go.Proofs.YthnlgnnodgeneaaDoorW.PrintWords Go.Proofs.YthnlgnnodgeneaaDoorW.PrintLast Go.Proofs.YthnlgnnodgeneaaDoorK Go.Proofs.YthnlgnnodgeneaaDoor.File
theorem same_ev (r : Rec) (hr : r.2.2.2.2.2.2.2.2.2.2.2.2.2.2.2.2.1.length ≤ 100000) : Ev (fun k => gossamerref13_Same.f k r.1 r.2.1 r.2.2.1 r.2.2.2.1 r.2.2.2.2.1 r.2.2.2.2.2.1 r.2.2.2.2.2.2.1 r.2.2.2.2.2.2.2.1 r.2.2.2.2.2.2.2.2.1 r.2.2.2.2.2.2.2.2.2.1 r.2.2.2.2.2.2.2.2.2.2.1 r.2.2.2.2.2.2.2.2.2.2.2.1 r.2.2.2.2.2.2.2.2.2.2.2.2.1 r.2.2.2.2.2.2.2.2.2.2.2.2.2.1 r.2.2.2.2.2.2.2.2.2.2.2.2.2.2.1 r.2.2.2.2.2.2.2.2.2.2.2.2.2.2.2.1 r.2.2.2.2.2.2.2.2.2.2.2.2.2.2.2.2.1 r.2.2.2.2.2.2.2.2.2.2.2.2.2.2.2.2.2.1 r.2.2.2.2.2.2.2.2.2.2.2.2.2.2.2.2.2.2.1 r.2.2.2.2.2.2.2.2.2.2.2.2.2.2.2.2.2.2.2.1 r.2.2.2.2.2.2.2.2.2.2.2.2.2.2.2.2.2.2.2.2.1 r.1 r.2.1 r.2.2.1 r.2.2.2.1 r.2.2.2.2.1 r.2.2.2.2.2.1 r.2.2.2.2.2.2.1 r.2.2.2.2.2.2.2.1 r.2.2.2.2.2.2.2.2.1 r.2.2.2.2.2.2.2.2.2.1 r.2.2.2.2.2.2.2.2.2.2.1 r.2.2.2.2.2.2.2.2.2.2.2.1 r.2.2.2.2.2.2.2.2.2.2.2.2.1 r.2.2.2.2.2.2.2.2.2.2.2.2.2.1 r.2.2.2.2.2.2.2.2.2.2.2.2.2.2.1 r.2.2.2.2.2.2.2.2.2.2.2.2.2.2.2.1 r.2.2.2.2.2.2.2.2.2.2.2.2.2.2.2.2.1 r.2.2.2.2.2.2.2.2.2.2.2.2.2.2.2.2.2.1 r.2.2.2.2.2.2.2.2.2.2.2.2.2.2.2.2.2.2.1 r.2.2.2.2.2.2.2.2.2.2.2.2.2.2.2.2.2.2.2.1 r.2.2.2.2.2.2.2.2.2.2.2.2.2.2.2.2.2.2.2.2.1) true := by
  unfold gossamerref13_Same.f
  simp only [BEq.rfl, Bool.and_self, if_true]
  refine Ev.bind (texts _ hr) ?_
  simp only [if_true]
  exact Ev.now _
theorem url_len (l : List UInt8) : (urlL l).2.2.2.2.2.2.2.2.2.2.2.2.2.2.2.2.1.length ≤ l.length + 1 := by
  have := path_len l
  unfold urlL
  split
  · exact this
  · exact Nat.zero_le _
theorem folder_len (l : List UInt8) : (folderL l).2.2.2.2.2.2.2.2.2.2.2.2.2.2.2.2.1.length ≤ l.length + 2 := by
  have := path_len l
  unfold folderL
  split
  · split
    · show (pathL l).length ≤ _; omega
    · show (pathL l ++ [S []]).length ≤ _; rw [List.length_append]; simp; omega
  · exact Nat.zero_le _
theorem FileTells : gossamerlaw14_FileTells.Pure := by
  intro a h0
  refine Ev.rounds (r := true) ?_
  unfold gossamerlaw14_FileTells.f
  by_cases hs : (a.size : Int) > 200
  · simp only [hs, if_true]
    exact Ev.bind awake (Ev.now _)
  · simp only [hs, if_false]
    obtain ⟨l, rfl⟩ := S_of a
    rw [size_S] at hs
    refine Ev.bind (go_url l (by omega)) (Ev.bind (ref_url l (by omega)) (Ev.bind (go_folder l (by omega)) (Ev.bind (ref_folder l (by omega)) ?_)))
    rw [go_clean l (by omega)]
    simp only [Option.bind_some]
    refine Ev.bind (ref_clean l (by omega)) ?_
    simp only [BEq.rfl, if_true]
    refine Ev.bind (same_ev (urlL l) (by have := url_len l; omega)) ?_
    simp only [if_true]
    refine Ev.bind (same_ev (folderL l) (by have := folder_len l; omega)) ?_
    simp only [if_true]
    exact Ev.bind awake (Ev.now _)
end Go.Proofs.YthnlgnnodgeneaaDoor.Pure
