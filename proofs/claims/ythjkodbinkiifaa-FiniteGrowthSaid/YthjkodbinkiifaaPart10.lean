/- A part of the proof of a given statement: Ok23, AmLib, Live23, Known23, AmSlice, AmRd. No condition. -/
import Derived.Test.YthjkodbinkiifaaPart9
import Derived.KernelRfl
namespace Go.Proofs.Ythjkodbinkiifaa.Am23
open Go Go.Proofs.Ythjkodbinkiifaa.Am
theorem e3 : EntryOK Proofs.Try.prog 3 a3 := entry_mk Proofs.Try.func3 [[1, 2], [3, 5, 7], [1, 3, 5, 6, 7, 8], [3, 5, 7], [1, 3, 5, 6, 7, 8], [1, 3, 5, 6, 7, 8]] false none (by kernel_rfl) (by kernel_rfl)
theorem e4 : EntryOK Proofs.Try.prog 4 a4 := entry_mk Proofs.Try.func4 [[1, 2, 4], [1, 2, 4, 5], [1, 2, 5, 6], [1, 2, 4, 5], [1, 2, 5, 6], [1, 2, 4, 5, 6], [1, 2, 4, 5, 6]] false none (by kernel_rfl) (by kernel_rfl)
theorem e5 : EntryOK Proofs.Try.prog 5 a5 := entry_mk Proofs.Try.func5 [] false none (by kernel_rfl) (by kernel_rfl)
theorem e6 : EntryOK Proofs.Try.prog 6 a6 := entry_mk Proofs.Try.func6 [[1, 2, 4], [1, 2, 4, 5, 6, 8, 9]] false none (by kernel_rfl) (by kernel_rfl)
theorem e7 : EntryOK Proofs.Try.prog 7 a7 := entry_mk Proofs.Try.func7 [[6, 8, 10, 12], [10, 12], [8, 10, 12, 14], [10, 12], [8, 10, 12, 14], [8, 10, 12, 14]] false none (by kernel_rfl) (by kernel_rfl)
theorem e8 : EntryOK Proofs.Try.prog 8 a8 := entry_mk Proofs.Try.func8 [[1, 2, 3, 4, 8], [1, 2, 3, 4, 8, 9], [1, 2, 3, 4, 8, 9, 11], [1, 2, 3, 4, 9, 11, 12], [1, 2, 3, 4, 8, 9, 11], [1, 2, 3, 4, 9, 11, 12], [1, 2, 3, 4, 8, 9, 11, 12], [1, 2, 3, 4, 8, 9, 11, 12], [1, 2, 3, 4, 8, 9, 11, 15]] false none (by kernel_rfl) (by kernel_rfl)
theorem e9 : EntryOK Proofs.Try.prog 9 a9 := entry_mk Proofs.Try.func9 [] false none (by kernel_rfl) (by kernel_rfl)
theorem e10 : EntryOK Proofs.Try.prog 10 a10 := entry_mk Proofs.Try.func10 [[1, 2], [1, 2, 9, 10], [1, 2, 9], [1, 2, 9], [1, 2, 9], [2], [1, 19], [2], [1, 19], [1, 2, 19], [1, 2, 19]] false none (by kernel_rfl) (by kernel_rfl)
theorem e11 : EntryOK Proofs.Try.prog 11 a11 := entry_mk Proofs.Try.func11 [] false none (by kernel_rfl) (by kernel_rfl)
theorem e12 : EntryOK Proofs.Try.prog 12 b12 := entry_mk Proofs.Try.func12 [] false none (by kernel_rfl) (by kernel_rfl)
theorem e12m : EntryOK Proofs.Try.prog 12 a12 := e12
theorem e13 : EntryOK Proofs.Try.prog 13 a13 := entry_mk Proofs.Try.func13 [[1, 2, 3, 4]] false none (by kernel_rfl) (by kernel_rfl)
theorem e14 : EntryOK Proofs.Try.prog 14 a14 := entry_mk Proofs.Try.func14 [[1, 2, 4, 5], [1, 2, 4, 5], [1, 2, 4, 5], [1, 2, 4, 5], [1, 2, 7, 8], [1, 2, 7, 8, 37, 38, 39], [1, 2, 7, 8], [1, 2, 7, 8, 37, 38, 39], [1, 2, 7, 8, 37, 38, 39], [1, 2, 7, 8, 37, 38, 39], [7, 8], [2, 7, 8, 49, 50], [7, 8], [2, 7, 8, 49, 50], [2, 7, 8, 49, 50], [2, 7, 8, 11, 12, 49, 50], [2, 7, 8, 11, 12, 49, 50, 59, 60, 61], [2, 7, 8, 11, 12, 49, 50], [2, 7, 8, 11, 12, 49, 50, 59, 60, 61], [2, 7, 8, 11, 12, 49, 50, 59, 60, 61], [4, 5, 7]] false none (by kernel_rfl) (by kernel_rfl)
theorem e15 : EntryOK Proofs.Try.prog 15 a15 := entry_mk Proofs.Try.func15 [] false none (by kernel_rfl) (by kernel_rfl)
theorem e16 : EntryOK Proofs.Try.prog 16 a16 := entry_mk Proofs.Try.func16 [[2, 3], [1, 2, 3, 4], [2, 3], [1, 2, 3, 4], [1, 2, 3, 4]] false none (by kernel_rfl) (by kernel_rfl)
theorem e17 : EntryOK Proofs.Try.prog 17 a17 := entry_mk Proofs.Try.func17 [] false none (by kernel_rfl) (by kernel_rfl)
theorem e18 : EntryOK Proofs.Try.prog 18 a18 := entry_mk Proofs.Try.func18 [[1, 2, 3, 4]] false none (by kernel_rfl) (by kernel_rfl)
theorem e19 : EntryOK Proofs.Try.prog 19 a19 := entry_mk Proofs.Try.func19 [[1, 2, 3, 4]] false none (by kernel_rfl) (by kernel_rfl)
theorem e20 : EntryOK Proofs.Try.prog 20 a20 := entry_mk Proofs.Try.func20 [[1, 2, 3, 4]] false none (by kernel_rfl) (by kernel_rfl)
theorem e21 : EntryOK Proofs.Try.prog 21 a21 := entry_mk Proofs.Try.func21 [[2, 3, 4], [4], [2, 3, 5], [4], [2, 3, 5], [2, 3, 4, 5], [2, 3, 4, 5]] false none (by kernel_rfl) (by kernel_rfl)
theorem e22 : EntryOK Proofs.Try.prog 22 a22 := entry_mk Proofs.Try.func22 [[3, 4, 5, 9], [2, 3, 4, 5, 9, 10], [3, 4, 5, 9], [2, 3, 4, 5, 9, 10], [2, 3, 4, 5, 9, 10]] false none (by kernel_rfl) (by kernel_rfl)
theorem e23 : EntryOK Proofs.Try.prog 23 a23 := entry_mk Proofs.Try.func23 [[1, 2, 3, 6, 7], [1, 2, 3, 6, 7], [1, 2, 3, 6, 7], [1, 2, 3, 6, 7], [1, 2, 3, 6, 7], [1, 2, 3, 6, 7], [11], [1, 2, 3, 10, 11, 12], [11], [1, 2, 3, 10, 11, 12], [1, 2, 3, 10, 11, 12], [1, 2, 3, 10, 11, 12, 13]] false none (by kernel_rfl) (by kernel_rfl)
theorem e24 : EntryOK Proofs.Try.prog 24 a24 := entry_mk Proofs.Try.func24 [[1, 2, 3, 6, 7], [1, 2, 3, 6, 7], [1, 2, 3, 6, 7], [1, 2, 3, 6, 7], [1, 2, 3, 6, 7], [1, 2, 3, 9], [1, 2, 3, 6, 7], [1, 2, 3, 9], [1, 2, 3, 6, 7, 9], [1, 2, 3, 6, 7, 9], [10], [1, 2, 10, 11], [10], [1, 2, 10, 11], [1, 2, 10, 11]] false none (by kernel_rfl) (by kernel_rfl)
theorem e25 : EntryOK Proofs.Try.prog 25 a25 := entry_mk Proofs.Try.func25 [[0, 1, 4], [4], [0, 1, 5], [4], [0, 1, 5], [0, 1, 4, 5], [0, 1, 4, 5]] false none (by kernel_rfl) (by kernel_rfl)
theorem e26 : EntryOK Proofs.Try.prog 26 a26 := entry_mk Proofs.Try.func26 [[0, 1, 4], [4], [0, 1, 6], [4], [0, 1, 6], [0, 1, 4, 6], [0, 1, 4, 6]] false none (by kernel_rfl) (by kernel_rfl)
theorem e27 : EntryOK Proofs.Try.prog 27 a27 := entry_mk Proofs.Try.func27 [] false none (by kernel_rfl) (by kernel_rfl)
theorem e28 : EntryOK Proofs.Try.prog 28 a28 := entry_mk Proofs.Try.func28 [[0, 1, 4], [4]] false none (by kernel_rfl) (by kernel_rfl)
theorem e29 : EntryOK Proofs.Try.prog 29 a29 := entry_mk Proofs.Try.func29 [[1, 4, 8], [8], [1, 4, 9], [8], [1, 4, 9], [1, 4, 8, 9], [1, 4, 9, 10, 11, 12], [1, 4, 9, 10, 11, 12, 13], [1, 4, 9, 10, 11, 12], [1, 4, 9, 10, 11, 12, 13], [1, 4, 9, 10, 11, 12, 13], [1, 4, 9, 10, 11, 12, 13], [1, 4, 8, 9]] false none (by kernel_rfl) (by kernel_rfl)
theorem e30 : EntryOK Proofs.Try.prog 30 a30 := entry_mk Proofs.Try.func30 [[1, 2, 3, 4], [1, 2, 3, 4]] false none (by kernel_rfl) (by kernel_rfl)
theorem e31 : EntryOK Proofs.Try.prog 31 a31 := entry_mk Proofs.Try.func31 [[1, 2, 3, 4], [8, 10, 11, 12], [6, 7, 8, 10, 11, 12, 40, 41], [8, 10, 11, 12], [6, 7, 8, 10, 11, 12, 40, 41], [6, 7, 8, 10, 11, 12, 40, 41], [6, 7, 8, 10, 11, 12, 40, 41], [6, 7, 8, 10, 11, 12, 13, 40, 41, 56, 57, 58], [6, 7, 8, 10, 11, 12, 40, 41], [6, 7, 8, 10, 11, 12, 13, 40, 41, 56, 57, 58], [6, 7, 8, 10, 11, 12, 13, 40, 41, 56, 57, 58], [6, 7, 8, 10, 11, 12, 13, 40, 41, 56, 57, 58], [2, 3, 4, 8, 10, 12], [8, 10, 11, 12, 101, 102], [2, 3, 4, 8, 10, 12], [8, 10, 11, 12, 101, 102], [2, 3, 4, 8, 10, 11, 12, 101, 102], [2, 3, 4, 8, 10, 11, 12, 101, 102], [2], [2, 18, 118, 119], [2], [2, 18, 118, 119], [2, 18, 118, 119]] false none (by kernel_rfl) (by kernel_rfl)
theorem e32 : EntryOK Proofs.Try.prog 32 a32 := entry_mk Proofs.Try.func32 [[1, 2, 4, 5], [1, 2, 4, 5], [1, 2, 4, 5], [1, 2, 4, 5], [1, 2, 7, 8], [1, 2, 7, 8, 9], [1, 2, 7, 8], [1, 2, 7, 8, 9], [1, 2, 7, 8, 9], [1, 2, 7, 8, 9], [7, 8], [1, 2, 7, 8, 10], [7, 8], [1, 2, 7, 8, 10], [1, 2, 7, 8, 10], [1, 2, 10, 11, 12], [1, 2, 7, 8, 10, 11, 12, 13], [1, 2, 10, 11, 12], [1, 2, 7, 8, 10, 11, 12, 13], [1, 2, 7, 8, 10, 11, 12, 13], [1, 2, 7, 8, 10, 11, 12, 13], [1, 2, 7, 8, 10, 11, 12, 13, 14], [1, 2, 7, 8, 10, 11, 12, 13], [1, 2, 7, 8, 10, 11, 12, 13, 14], [1, 2, 7, 8, 10, 11, 12, 13, 14], [4, 5, 7]] false none (by kernel_rfl) (by kernel_rfl)
theorem e33 : EntryOK Proofs.Try.prog 33 a33 := entry_mk Proofs.Try.func33 [[1, 2, 3, 4], [1, 2, 3, 4], [8], [1, 8, 9, 10], [8], [1, 8, 9, 10], [1, 8, 9, 10], [1, 8, 10, 11], [1, 8, 9, 10, 11, 12], [1, 8, 10, 11], [1, 8, 9, 10, 11, 12], [1, 8, 9, 10, 11, 12], [1, 8, 9, 10, 11, 12], [1, 8, 9, 10, 11, 12], [1, 8, 9, 10, 11, 12], [1, 8, 9, 10, 11, 12, 13], [1, 8, 9, 10, 11, 12], [1, 8, 9, 10, 11, 12, 13], [1, 8, 9, 10, 11, 12, 13], [2, 3, 4, 8]] false none (by kernel_rfl) (by kernel_rfl)
theorem e34 : EntryOK Proofs.Try.prog 34 a34 := entry_mk Proofs.Try.func34 [[1, 2, 3, 4], [7], [1, 6, 7, 8], [7], [1, 6, 7, 8], [1, 6, 7, 8], [1, 6, 7, 8, 9], [1, 6, 7, 8, 9, 10], [1, 6, 7, 8, 9], [1, 6, 7, 8, 9, 10], [1, 6, 7, 8, 9, 10], [1, 6, 7, 8, 9, 10], [7, 12, 13, 14], [7, 11, 12, 13, 14, 15], [7, 12, 13, 14], [7, 11, 12, 13, 14, 15], [7, 11, 12, 13, 14, 15], [7, 11, 12, 13, 14, 15], [7, 11, 12, 13, 14, 15, 16], [7, 11, 12, 13, 14, 15], [7, 11, 12, 13, 14, 15, 16], [7, 11, 12, 13, 14, 15, 16], [7, 11, 12, 13, 14, 15, 16], [2, 3, 4, 7, 12, 14], [7, 12, 13, 14, 17], [2, 3, 4, 7, 12, 14], [7, 12, 13, 14, 17], [2, 3, 4, 7, 12, 13, 14, 17], [2, 3, 4, 7, 12, 13, 14, 17], [21], [12, 14, 18, 20, 21, 22], [21], [12, 14, 18, 20, 21, 22], [12, 14, 18, 20, 21, 22], [12, 14, 18, 20, 21, 22], [12, 14, 18, 20, 21, 22, 23], [12, 14, 18, 20, 21, 22], [12, 14, 18, 20, 21, 22, 23], [12, 14, 18, 20, 21, 22, 23], [12, 14, 18, 20, 21, 22, 23], [12, 14, 18, 20, 21, 22, 23, 24, 25], [12, 14, 18, 20, 21, 22, 23], [12, 14, 18, 20, 21, 22, 23, 24, 25], [12, 14, 18, 20, 21, 22, 23, 24, 25], [12, 14, 18, 20, 21, 22, 23, 24, 25]] false none (by kernel_rfl) (by kernel_rfl)
theorem e35 : EntryOK Proofs.Try.prog 35 a35 := entry_mk Proofs.Try.func35 [[1, 2, 3], [2], [1, 3, 4], [2], [1, 3, 4], [1, 2, 3, 4], [1, 2, 3, 4]] false none (by kernel_rfl) (by kernel_rfl)
theorem e36 : EntryOK Proofs.Try.prog 36 a36 := entry_mk Proofs.Try.func36 [[1, 2], [2]] false none (by kernel_rfl) (by kernel_rfl)
theorem e37 : EntryOK Proofs.Try.prog 37 a37 := entry_mk Proofs.Try.func37 [[1, 3, 5, 7], [1, 3, 4, 5, 7, 25, 26], [1, 3, 5, 7], [1, 3, 4, 5, 7, 25, 26], [1, 3, 4, 5, 7, 25, 26], [1, 3, 4, 5, 7, 8, 25, 26], [1, 3, 4, 5, 7, 8, 25, 26], [1, 3, 4, 5, 7, 25, 26], [1, 2, 3, 5, 7], [3, 5, 7, 11, 13, 15], [1, 3, 5, 7, 11, 13, 14, 15, 103, 104], [3, 5, 7, 11, 13, 15], [1, 3, 5, 7, 11, 13, 14, 15, 103, 104], [1, 3, 5, 7, 11, 13, 14, 15, 103, 104], [1, 3, 5, 7, 11, 13, 14, 15, 103, 104]] false none (by kernel_rfl) (by kernel_rfl)
theorem e39 : EntryOK Proofs.Try.prog 39 a39 := entry_mk Proofs.Try.func39 [] false none (by kernel_rfl) (by kernel_rfl)
theorem e40 : EntryOK Proofs.Try.prog 40 a40 := entry_mk Proofs.Try.func40 [[2, 3], [2, 3, 16, 17, 18], [2, 3], [2, 3, 16, 17, 18], [2, 3, 16, 17, 18]] false none (by kernel_rfl) (by kernel_rfl)
theorem e41 : EntryOK Proofs.Try.prog 41 a41 := entry_mk Proofs.Try.func41 [[2, 3]] false none (by kernel_rfl) (by kernel_rfl)
theorem e42 : EntryOK Proofs.Try.prog 42 a42 := entry_mk Proofs.Try.func42 [[1, 3, 4, 7], [1, 3, 4, 6, 7, 8], [1, 3, 4, 7], [1, 3, 4, 6, 7, 8], [1, 3, 4, 6, 7, 8], [1, 3, 4, 6, 7, 8], [1, 3, 4, 6, 7, 8], [1, 2, 3, 4, 7]] false none (by kernel_rfl) (by kernel_rfl)
theorem e43 : EntryOK Proofs.Try.prog 43 a43 := entry_mk Proofs.Try.func43 [[0, 1, 4], [4], [0, 1, 5], [4], [0, 1, 5], [0, 1, 4, 5], [0, 1, 4, 5]] false none (by kernel_rfl) (by kernel_rfl)
theorem e44 : EntryOK Proofs.Try.prog 44 a44 := entry_mk Proofs.Try.func44 [[0, 1, 4], [4], [0, 14], [4], [0, 14, 15], [0, 4, 14], [0, 4, 14]] false none (by kernel_rfl) (by kernel_rfl)
theorem e45 : EntryOK Proofs.Try.prog 45 a45 := entry_mk Proofs.Try.func45 [[2, 3], [1, 2, 3, 11], [2, 3], [1, 2, 3, 11], [1, 2, 3, 11], [1, 2, 3, 4, 5, 11], [1, 2, 3, 4, 5, 11, 19, 20, 21], [1, 2, 3, 4, 5, 11], [1, 2, 3, 4, 5, 11, 19, 20, 21], [1, 2, 3, 4, 5, 11, 19, 20, 21]] false none (by kernel_rfl) (by kernel_rfl)
theorem e46 : EntryOK Proofs.Try.prog 46 a46 := entry_mk Proofs.Try.func46 [] false none (by kernel_rfl) (by kernel_rfl)
theorem e47 : EntryOK Proofs.Try.prog 47 a47 := entry_mk Proofs.Try.func47 [[1, 2, 3, 4, 5, 6, 12, 13, 14, 15, 16], [1, 2, 3, 4, 5, 6, 13, 14, 15, 16], [5, 12], [1, 2, 3, 4, 5, 6, 13, 14, 15, 16], [5, 12], [1, 2, 3, 4, 5, 6, 13, 14, 15, 16], [1, 2, 3, 4, 5, 6, 12, 13, 14, 15, 16], [1, 2, 3, 4, 5, 6, 13, 14, 15, 16], [1, 2, 3, 4, 5, 6, 13, 14, 15, 17], [1, 2, 3, 4, 5, 6, 13, 14, 15, 17], [1, 2, 3, 4, 5, 6, 13, 14, 15, 17], [1, 2, 3, 4, 5, 6, 13, 14, 15, 17], [1, 2, 3, 4, 5, 6, 13, 14, 15, 17], [1, 2, 3, 4, 5, 6, 13, 14, 15, 16], [1, 2, 3, 4, 5, 6, 13, 14, 15, 16], [1, 2, 3, 4, 5, 6, 12, 13, 14, 15]] true none (by kernel_rfl) (by kernel_rfl)
theorem e48 : EntryOK Proofs.Try.prog 48 a48 := entry_mk Proofs.Try.func48 [[], [0, 1], [], [0, 1], [0, 1], [0, 1, 5], [0, 1, 4, 5, 6], [0, 1, 5], [0, 1, 4, 5, 6], [0, 1, 4, 5, 6], [0, 1, 4, 5, 6], [0, 1, 4, 5, 6], [0, 1, 4, 5, 6, 7], [0, 1, 4, 5, 6], [0, 1, 4, 5, 6, 7], [0, 1, 4, 5, 6, 7]] true none (by kernel_rfl) (by kernel_rfl)
theorem e49 : EntryOK Proofs.Try.prog 49 a49 := entry_mk Proofs.Try.func49 [[0, 1, 2, 3, 4], [0, 1, 2, 3, 4], [], [0, 1, 2, 3, 4, 10], [], [0, 1, 2, 3, 4, 10], [0, 1, 2, 3, 4, 10], [0, 1, 2, 3, 4, 10]] true none (by kernel_rfl) (by kernel_rfl)
theorem e50 : EntryOK Proofs.Try.prog 50 a50 := entry_mk Proofs.Try.func50 [[2]] false none (by kernel_rfl) (by kernel_rfl)
theorem e51 : EntryOK Proofs.Try.prog 51 a51 := entry_mk Proofs.Try.func51 [[1, 2, 3, 6, 7], [1, 2, 3, 6, 7], [1, 2, 3, 6, 7]] false none (by kernel_rfl) (by kernel_rfl)
theorem e52 : EntryOK Proofs.Try.prog 52 a52 := entry_mk Proofs.Try.func52 [] false none (by kernel_rfl) (by kernel_rfl)
theorem e53 : EntryOK Proofs.Try.prog 53 a53 := entry_mk Proofs.Try.func53 [[4], [4, 13, 14, 15], [4], [4, 13, 14, 15], [4, 13, 14, 15]] false none (by kernel_rfl) (by kernel_rfl)
theorem e54 : EntryOK Proofs.Try.prog 54 a54 := entry_mk Proofs.Try.func54 [[4], [1, 3, 4, 15, 16, 17], [4], [1, 3, 4, 15, 16, 17], [1, 3, 4, 15, 16, 17], [1, 3, 4, 15, 16, 17]] false none (by kernel_rfl) (by kernel_rfl)
theorem e55 : EntryOK Proofs.Try.prog 55 a55 := entry_mk Proofs.Try.func55 [[0, 1], [0, 1, 6], [0, 1, 3, 6, 17, 18, 19], [0, 1, 6], [0, 1, 3, 6, 17, 18, 19], [0, 1, 3, 6, 17, 18, 19]] true none (by kernel_rfl) (by kernel_rfl)
theorem e56 : EntryOK Proofs.Try.prog 56 a56 := entry_mk Proofs.Try.func56 [[0, 2, 3, 4]] false none (by kernel_rfl) (by kernel_rfl)
theorem e57 : EntryOK Proofs.Try.prog 57 a57 := entry_mk Proofs.Try.func57 [[0, 1], [0, 1, 4, 7], [0, 1, 3, 4, 7, 18, 19, 20], [0, 1, 4, 7], [0, 1, 3, 4, 7, 18, 19, 20], [0, 1, 3, 4, 7, 18, 19, 20], [0, 1, 7]] true none (by kernel_rfl) (by kernel_rfl)
theorem e58 : EntryOK Proofs.Try.prog 58 a58 := entry_mk Proofs.Try.func58 [] false none (by kernel_rfl) (by kernel_rfl)
theorem e59 : EntryOK Proofs.Try.prog 59 a59 := entry_mk Proofs.Try.func59 [[5], [1, 4, 5, 6], [5], [1, 4, 5, 6], [1, 4, 5, 6]] false none (by kernel_rfl) (by kernel_rfl)
theorem e60 : EntryOK Proofs.Try.prog 60 a60 := entry_mk Proofs.Try.func60 [[4, 5], [0, 4, 5, 6], [4, 5], [0, 4, 5, 6], [0, 4, 5, 6], [0, 4, 5, 6, 7], [0, 4, 5, 6, 7, 8], [0, 4, 5, 6, 7], [0, 4, 5, 6, 7, 8], [0, 4, 5, 6, 7, 8], [0, 4, 5, 6, 7, 8], [0, 4, 5, 6, 7]] false none (by kernel_rfl) (by kernel_rfl)
theorem e61 : EntryOK Proofs.Try.prog 61 a61 := entry_mk Proofs.Try.func61 [[3], [0, 3, 4], [3], [0, 3, 4], [0, 3, 4]] false none (by kernel_rfl) (by kernel_rfl)
theorem e62 : EntryOK Proofs.Try.prog 62 a62 := entry_mk Proofs.Try.func62 [[0, 2, 3], [8], [0, 5, 6, 8, 9], [8], [0, 5, 6, 8, 9], [0, 5, 6, 8, 9], [0, 5, 6, 8, 9], [0, 5, 6, 8, 9, 10], [0, 5, 6, 8, 9], [0, 5, 6, 8, 9, 10], [0, 5, 6, 8, 9, 10], [0, 5, 6, 8, 9, 10]] false none (by kernel_rfl) (by kernel_rfl)
theorem e63 : EntryOK Proofs.Try.prog 63 a63 := entry_mk Proofs.Try.func63 [] false none (by kernel_rfl) (by kernel_rfl)
theorem e64 : EntryOK Proofs.Try.prog 64 a64 := entry_mk Proofs.Try.func64 [[1, 2, 3], [2], [3, 36, 37, 38], [2], [3, 36, 37, 38], [2, 3, 36, 37, 38], [2, 3, 36, 37, 38]] false none (by kernel_rfl) (by kernel_rfl)
theorem e65 : EntryOK Proofs.Try.prog 65 a65 := entry_mk Proofs.Try.func65 [[8, 9], [3, 8, 9, 10, 11], [8, 9], [3, 8, 9, 10, 11], [3, 8, 9, 10, 11], [3, 8, 9, 10, 11], [3, 8, 9, 10, 11, 39, 40], [3, 8, 9, 10, 11], [3, 8, 9, 10, 11, 39, 40], [3, 8, 9, 10, 11, 39, 40], [3, 8, 9, 10, 11, 39, 40]] false none (by kernel_rfl) (by kernel_rfl)
theorem e66 : EntryOK Proofs.Try.prog 66 a66 := entry_mk Proofs.Try.func66 [[3, 9, 10, 11, 12], [9, 10], [3, 9, 10, 11, 12, 13], [9, 10], [3, 9, 10, 11, 12, 13], [3, 9, 10, 11, 12, 13], [3, 9, 10, 11, 12, 13], [3, 9, 10, 11, 12, 13, 14], [3, 9, 10, 11, 12, 13], [3, 9, 10, 11, 12, 13, 14], [3, 9, 10, 11, 12, 13, 14], [3, 9, 10, 11, 12, 13, 14, 15]] false none (by kernel_rfl) (by kernel_rfl)
theorem e67 : EntryOK Proofs.Try.prog 67 a67 := entry_mk Proofs.Try.func67 [[8, 9], [2, 6, 7, 8, 9, 10], [8, 9], [2, 6, 7, 8, 9, 10], [2, 6, 7, 8, 9, 10], [2, 6, 7, 8, 9, 10]] false none (by kernel_rfl) (by kernel_rfl)
theorem e68 : EntryOK Proofs.Try.prog 68 a68 := entry_mk Proofs.Try.func68 [] false none (by kernel_rfl) (by kernel_rfl)
theorem e69 : EntryOK Proofs.Try.prog 69 a69 := entry_mk Proofs.Try.func69 [[1], [1, 2, 3, 9, 10], [1], [1, 2, 3, 9, 10], [1, 2, 3, 9, 10]] false none (by kernel_rfl) (by kernel_rfl)
theorem e70 : EntryOK Proofs.Try.prog 70 a70 := entry_mk Proofs.Try.func70 [] false none (by kernel_rfl) (by kernel_rfl)
theorem e71 : EntryOK Proofs.Try.prog 71 a71 := entry_mk Proofs.Try.func71 [[3], [1, 3, 4], [3], [1, 3], [1, 3, 4], [1, 3, 4], [1, 3, 4, 12, 13, 14], [1, 3, 4], [1, 3, 4, 12, 13, 14], [1, 3, 4, 12, 13, 14], [1, 3, 4, 12, 13, 14]] false none (by kernel_rfl) (by kernel_rfl)
theorem e72 : EntryOK Proofs.Try.prog 72 a72 := entry_mk Proofs.Try.func72 [[0, 2], [2], [0, 10, 11, 12], [2], [0, 10, 11, 12], [0, 2, 10, 11, 12], [0, 2, 10, 11, 12], [0, 10, 11, 12, 16, 17, 18], [0, 2, 10, 11, 12], [0, 10, 11, 12, 16, 17, 18], [0, 2, 10, 11, 12, 16, 17, 18], [0, 2, 10, 11, 12, 16, 17, 18]] false none (by kernel_rfl) (by kernel_rfl)
theorem e73 : EntryOK Proofs.Try.prog 73 a73 := entry_mk Proofs.Try.func73 [[6, 7], [1, 6, 7, 14, 15], [6, 7], [1, 6, 7, 14, 15], [1, 6, 7, 14, 15], [1, 6, 7, 8, 14, 15], [1, 6, 7, 8, 14, 15, 21, 22], [1, 6, 7, 8, 14, 15], [1, 6, 7, 8, 14, 15, 21, 22], [1, 6, 7, 8, 14, 15, 21, 22], [1, 6, 7, 8, 14, 15, 21, 22], [1, 6, 7, 14, 15]] false none (by kernel_rfl) (by kernel_rfl)
theorem e74 : EntryOK Proofs.Try.prog 74 a74 := entry_mk Proofs.Try.func74 [[3], [0, 3, 6, 7], [3], [0, 3, 6, 7], [0, 3, 6, 7]] false none (by kernel_rfl) (by kernel_rfl)
theorem e75 : EntryOK Proofs.Try.prog 75 a75 := entry_mk Proofs.Try.func75 [[0, 4, 5, 6], [0, 1, 4, 5, 6, 7], [0, 4, 5, 6], [0, 1, 4, 5, 6, 7], [0, 1, 4, 5, 6, 7], [0, 1, 4, 5, 6, 7], [4, 5], [0, 4, 5, 6], [4, 5], [0, 4, 5, 6], [0, 4, 5, 6], [0, 4, 5, 6], [0, 4, 5, 6, 8, 9], [0, 4, 5, 6], [0, 4, 5, 6, 8, 9], [0, 4, 5, 6, 8, 9], [0, 4, 5, 6, 8, 9]] false none (by kernel_rfl) (by kernel_rfl)
theorem e76 : EntryOK Proofs.Try.prog 76 a76 := entry_mk Proofs.Try.func76 [[0, 2], [2], [0, 3], [2], [0, 3], [0, 2, 3], [0, 2, 3], [0, 3, 4], [0, 2, 3], [0, 3, 4], [0, 2, 3, 4], [0, 2, 3, 4]] false none (by kernel_rfl) (by kernel_rfl)
theorem e77 : EntryOK Proofs.Try.prog 77 a77 := entry_mk Proofs.Try.func77 [] false none (by kernel_rfl) (by kernel_rfl)
theorem e79 : EntryOK Proofs.Try.prog 79 a79 := entry_mk Proofs.Try.func79 [] false none (by kernel_rfl) (by kernel_rfl)
theorem e80 : EntryOK Proofs.Try.prog 80 a80 := entry_mk Proofs.Try.func80 [[], [2, 3, 10, 11, 12], [], [2, 3, 10, 11, 12], [2, 3, 10, 11, 12], [2, 3, 10, 11, 12]] true none (by kernel_rfl) (by kernel_rfl)
theorem tabOK : TabOK Proofs.Try.prog tab := tab_cons e3 <| tab_cons e4 <| tab_cons e5 <| tab_cons e6 <| tab_cons e7 <| tab_cons e8 <| tab_cons e9 <| tab_cons e10 <| tab_cons e11 <| tab_cons e12m <| tab_cons e13 <| tab_cons e14 <| tab_cons e15 <| tab_cons e16 <| tab_cons e17 <| tab_cons e18 <| tab_cons e19 <| tab_cons e20 <| tab_cons e21 <| tab_cons e22 <| tab_cons e23 <| tab_cons e24 <| tab_cons e25 <| tab_cons e26 <| tab_cons e27 <| tab_cons e28 <| tab_cons e29 <| tab_cons e30 <| tab_cons e31 <| tab_cons e32 <| tab_cons e33 <| tab_cons e34 <| tab_cons e35 <| tab_cons e36 <| tab_cons e37 <| tab_cons e39 <| tab_cons e40 <| tab_cons e41 <| tab_cons e42 <| tab_cons e43 <| tab_cons e44 <| tab_cons e45 <| tab_cons e46 <| tab_cons e47 <| tab_cons e48 <| tab_cons e49 <| tab_cons e50 <| tab_cons e51 <| tab_cons e52 <| tab_cons e53 <| tab_cons e54 <| tab_cons e55 <| tab_cons e56 <| tab_cons e57 <| tab_cons e58 <| tab_cons e59 <| tab_cons e60 <| tab_cons e61 <| tab_cons e62 <| tab_cons e63 <| tab_cons e64 <| tab_cons e65 <| tab_cons e66 <| tab_cons e67 <| tab_cons e68 <| tab_cons e69 <| tab_cons e70 <| tab_cons e71 <| tab_cons e72 <| tab_cons e73 <| tab_cons e74 <| tab_cons e75 <| tab_cons e76 <| tab_cons e77 <| tab_cons e79 <| tab_cons e80 <| tab_nil _
end Go.Proofs.Ythjkodbinkiifaa.Am23
namespace Go.Proofs.Ythjkodbinkiifaa.Am
open Go

theorem fit64 {n : Int} (h1 : -9223372036854775808 ≤ n) (h2 : n ≤ 9223372036854775807) : Fit .i64 n := by
 unfold Fit
 simp only [IntKind.wrap]
 show (if (true && decide (n % (18446744073709551616 : Int) ≥ (9223372036854775808 : Int))) = true then n % (18446744073709551616 : Int) - 18446744073709551616 else n % (18446744073709551616 : Int)) = n
 by_cases h0 : 0 ≤ n
 ·have hm : n % (18446744073709551616 : Int) = n := Int.emod_eq_of_lt h0 (by omega)
  rw [hm, if_neg (by simp; omega)]
 ·have hm : n % (18446744073709551616 : Int) = n + 18446744073709551616 := by omega
  rw [hm, if_pos (by simp; omega)]
  omega
theorem fit32 {n : Int} (h1 : -2147483648 ≤ n) (h2 : n ≤ 2147483647) : Fit .i32 n := by
 unfold Fit
 simp only [IntKind.wrap]
 show (if (true && decide (n % (4294967296 : Int) ≥ (2147483648 : Int))) = true then n % (4294967296 : Int) - 4294967296 else n % (4294967296 : Int)) = n
 by_cases h0 : 0 ≤ n
 ·have hm : n % (4294967296 : Int) = n := Int.emod_eq_of_lt h0 (by omega)
  rw [hm, if_neg (by simp; omega)]
 ·have hm : n % (4294967296 : Int) = n + 4294967296 := by omega
  rw [hm, if_pos (by simp; omega)]
  omega

/-- One more round. -/
theorem lp_next {b : LS → Option (LS ⊕ LO)} {s s' : LS} {r : LO} (h : b s = some (.inl s')) (k : lpInf b s' = some r) : lpInf b s = some r := by
 rw [lpInf_eq, h]
 exact k
theorem lp_last {b : LS → Option (LS ⊕ LO)} {s : LS} {r : LO} (h : b s = some (.inr r)) : lpInf b s = some r := by
 rw [lpInf_eq, h]
 rfl
end Go.Proofs.Ythjkodbinkiifaa.Am
namespace Go.Proofs.Ythjkodbinkiifaa.Am23
open Go Go.Proofs.Ythjkodbinkiifaa.Am
theorem knows_known : callInf cfg0 12 [] 0 [] = some (.bool true, []) := callInf_of (n := 100) (d := 20) (by kernel_rfl)
end Go.Proofs.Ythjkodbinkiifaa.Am23
namespace Go.Proofs.Ythjkodbinkiifaa.Am23
open Go Go.Proofs.Ythjkodbinkiifaa.Am
theorem mixed : Proofs.Try.prog.follows .mixedOrders = true := by kernel_rfl
theorem run78 (a b : ByteArray) (w : World) : (callFunc 78 #[.string a, .string b]).run Proofs.Try.prog w = .ok (.value (.int .i64 (Extern.BytealgCompare.cmp a b))) w := by kernel_rfl
theorem run38 (x y : Int) (w : World) : (callFunc 38 #[.int .u64 x, .int .u64 y, .int .u64 0]).run Proofs.Try.prog w = .ok (.value (Extern.MathBitsCarry.pair ((x.toNat + y.toNat + 0) % Extern.MathBitsCarry.m64) ((x.toNat + y.toNat + 0) / Extern.MathBitsCarry.m64))) w := by kernel_rfl
theorem extOK : ExtSound Proofs.Try.prog ext := fun g e args v w h he => by
 unfold ext at h
 split at h
 ·cases h
  dsimp only at he
  split at he
  ·cases he
   exact run38 _ _ w
  ·cases he
 ·cases h
  dsimp only at he
  split at he
  ·cases he
   exact run78 _ _ w
  ·cases he
 ·cases h
theorem codeOK : CodeOK cfg := codeOK_known (k := 12) (a := a12) (b := b12) (v := .bool true) mixed tabOK e12 rfl (by kernel_rfl) extOK rfl rfl rfl knows_known
end Go.Proofs.Ythjkodbinkiifaa.Am23
namespace Go.Proofs.Ythjkodbinkiifaa.Am
open Go

/-- The facts on a slice's type that append asks for. -/
structure ElemT (P : Program) (t e : TypeId) (s by_ : Nat) : Prop where
 sl : tslice P t = some e
 sz : tsize P e = some s
 bt : tbytes P e = some by_
 ze : ∃ z, tzero P e = some z ∧ (cellsOf z).length = s
 un : P.underlying t = some (.slice e)
 s0 : 0 < s
 b0 : 0 < by_

/-- A slice that this function has made: nil, or the whole of an object of its own. -/
def Own (H : AHeap) (e s : Nat) (x : Value) (o : Option Nat) (n : Nat) (cs : List Value) : Prop :=
 cs.length = n * s ∧
 match o with
 | none => n = 0 ∧ (x = .slice none 0 0 ∨ x = emptySlice)
 | some id => 0 < n ∧ x = .slice (some ⟨id, 0, some cs.length⟩) n n ∧ ∃ wr, wr ≤ cs.length ∧ H[id]? = some (.cells cs e wr .row)

/-- All but one object stay. -/
def Stay (o : Option Nat) (H H' : AHeap) : Prop := H.length ≤ H'.length ∧ ∀ q, q < H.length → o ≠ some q → H'[q]? = H[q]?
theorem Stay.refl (o : Option Nat) (H : AHeap) : Stay o H H := ⟨Nat.le_refl _, fun _ _ _ => rfl⟩
theorem Stay.trans {o : Option Nat} {a b c : AHeap} (h : Stay o a b) (k : Stay o b c) : Stay o a c := ⟨Nat.le_trans h.1 k.1, fun q hq ho => (k.2 q (Nat.lt_of_lt_of_le hq h.1) ho).trans (h.2 q hq ho)⟩
theorem Stay.app (o : Option Nat) (H l : AHeap) : Stay o H (H ++ l) := ⟨by simp, fun _ hq _ => List.getElem?_append_left hq⟩

theorem Stay.over {o : Option Nat} {H0 H H' : AHeap} (h : Stay none H0 H) (k : Stay o H H') (ho : ∀ id, o = some id → H0.length ≤ id) : Stay none H0 H' := by
 refine ⟨Nat.le_trans h.1 k.1, fun q hq _ => ?_⟩
 rw [k.2 q (Nat.lt_of_lt_of_le hq h.1) (fun e => by have := ho q e; omega)]
 exact h.2 q hq (by simp)

theorem Own.stay {H H' : AHeap} {e s : Nat} {x : Value} {o o' : Option Nat} {n : Nat} {cs : List Value} (h : Own H e s x o n cs) (k : Stay o' H H') (hne : ∀ id, o = some id → o' ≠ some id) : Own H' e s x o n cs := by
 refine ⟨h.1, ?_⟩
 have h2 := h.2
 cases o with
 | none => exact h2
 | some id =>
  obtain ⟨a, b, wr, c, d⟩ := h2
  exact ⟨a, b, wr, c, by rw [k.2 id (List.getElem?_eq_some_iff.1 d).1 (hne id rfl)]; exact d⟩

theorem Own.len {H : AHeap} {e s : Nat} {x : Value} {o : Option Nat} {n : Nat} {cs : List Value} (h : Own H e s x o n cs) : ∃ a c, x = .slice a n c := by
 have h2 := h.2
 cases o with
 | none =>
  obtain ⟨rfl, rfl | rfl⟩ := h2
  ·exact ⟨_, _, rfl⟩
  ·exact ⟨_, _, rfl⟩
 | some id => exact ⟨_, _, h2.2.1⟩

/-- One element more: what is appended lies in a new row at the heap's end. -/
theorem own_append {P : Program} {t e s by_ : Nat} (T : ElemT P t e s by_) {H : AHeap} {x : Value} {o : Option Nat} {n : Nat} {cs : List Value} (h : Own H e s x o n cs) {ecs : List Value} (he : ecs.length = s) (hc : ecs.all isCell = true) {prot : Nat} {room : Bool}
  (hp : ∀ id, o = some id → prot ≤ id) (hroom : (n + 1) * by_ ≤ 140737488355328) {L : Nat} (hL : L = s) {el : Nat} (hel : el = ecs.length) :
  ∃ x' o' H', aappend P prot room t t x (.slice (some ⟨H.length, 0, some L⟩) 1 1) (H ++ [.cells ecs e el .row]) = some (x', H') ∧ Own H' e s x' (some o') (n + 1) (cs ++ ecs) ∧ Stay o H H' ∧ (o = some o' ∨ (o = none ∧ H.length ≤ o')) := by
 subst hL; subst hel
 obtain ⟨z, hz, hzl⟩ := T.ze
 have hsrc : srcCells P L t (.slice (some ⟨H.length, 0, some L⟩) 1 1) (H ++ [.cells ecs e ecs.length .row]) = some (1, ecs) := by
  unfold srcCells
  rw [T.un]
  simp only [cellsAt]
  unfold getCells
  rw [append_get.1]
  simp only [Nat.one_mul, Nat.zero_add, he, Nat.le_refl, and_self, if_true, Option.map_some, List.drop_zero]
  rw [List.take_of_length_le (by omega)]
 have hcond : t = t ∧ 0 < L ∧ 0 < by_ ∧ (cellsOf z).length = L := ⟨rfl, T.s0, T.b0, hzl⟩
 have hcond2 : ecs.length = 1 * L ∧ ecs.all isCell = true := ⟨by omega, hc⟩
 have h2 := h.2
 have hlen := h.1
 cases o with
 | none =>
  obtain ⟨rfl, hx⟩ := h2
  have hcs : cs = [] := List.eq_nil_of_length_eq_zero (by rw [hlen]; simp)
  subst hcs
  have hres : ∀ y, y = Value.slice none 0 0 ∨ y = emptySlice → aappend P prot room t t y (.slice (some ⟨H.length, 0, some L⟩) 1 1) (H ++ [.cells ecs e ecs.length .row]) =
    some (sliceTo (H ++ [.cells ecs e ecs.length .row]) (1 * L) 1, newObj (H ++ [.cells ecs e ecs.length .row]) ecs e) := by
   intro y hy
   unfold aappend
   rw [T.sl, Option.bind_some, T.sz, Option.bind_some, T.bt, Option.bind_some, hz, Option.bind_some, if_pos hcond, hsrc, Option.bind_some]
   dsimp only
   rw [if_pos hcond2]
   rcases hy with rfl | rfl
   ·simp only [Nat.one_ne_zero, if_false]
    rw [if_pos (by omega)]
   ·simp only [emptySlice, Nat.one_ne_zero, if_false]
    rw [if_pos (by omega)]
  refine ⟨_, (H ++ [AObj.cells ecs e ecs.length .row]).length, _, hres x hx, ⟨by simp [he], by omega, ?_, ecs.length, by simp, ?_⟩, ?_, .inr ⟨rfl, by simp⟩⟩
  ·simp [sliceTo, he]
  ·simp only [List.nil_append, newObj]
   exact append_get.1
  ·exact (Stay.app none H _).trans (Stay.app none _ _)
 | some id =>
  obtain ⟨hn, rfl, wr, hwr, hH⟩ := h2
  have hlt := (List.getElem?_eq_some_iff.1 hH).1
  have hH' : (H ++ [AObj.cells ecs e ecs.length .row])[id]? = some (.cells cs e wr .row) := by rw [List.getElem?_append_left hlt]; exact hH
  refine ⟨.slice (some ⟨id, 0, some ((n + 1) * L)⟩) (n + 1) (n + 1), id, (H ++ [AObj.cells ecs e ecs.length .row]).set id (.cells (cs ++ ecs) e wr .row), ?_, ⟨by simp [hlen, he, Nat.add_mul], by omega, ?_, wr, by simp; omega, ?_⟩, ?_, .inl rfl⟩
  ·unfold aappend
   rw [T.sl, Option.bind_some, T.sz, Option.bind_some, T.bt, Option.bind_some, hz, Option.bind_some, if_pos hcond, hsrc, Option.bind_some]
   dsimp only
   rw [if_pos hcond2]
   simp only [Nat.one_ne_zero, if_false]
   rw [if_neg (by omega), hH']
   simp only [OMode.isRow, true_and, and_true]
   rw [if_pos ⟨hp id rfl, by omega, hroom⟩]
  ·simp [hlen, he, Nat.add_mul]
  ·rw [List.getElem?_set_self (by simp; omega)]
  ·refine ⟨by simp, fun q hq hne => ?_⟩
   rw [List.getElem?_set_ne (fun e => hne (by rw [e])), List.getElem?_append_left hq]

/-- An element is read. -/
theorem own_at {P : Program} {t e by_ : Nat} (T : ElemT P t e 1 by_) {H : AHeap} {x : Value} {o : Option Nat} {n : Nat} {cs : List Value} (h : Own H e 1 x o n cs) {i : Nat} {v : Value} (hv : cs[i]? = some v) :
  ∃ id, o = some id ∧ aindexAddr P t x (.int .i64 i) = some (.pointer (some ⟨id, i, some cs.length⟩)) ∧ getCells H id cs.length i 1 = some [v] := by
 have hi := (List.getElem?_eq_some_iff.1 hv).1
 have hlen := h.1
 have h2 := h.2
 cases o with
 | none => obtain ⟨rfl, _⟩ := h2; simp at hlen; rw [hlen] at hi; simp at hi
 | some id =>
  obtain ⟨hn, rfl, wr, hwr, hH⟩ := h2
  refine ⟨id, rfl, ?_, ?_⟩
  ·unfold aindexAddr
   rw [T.un]
   simp only [T.sz, Option.bind_some]
   rw [if_pos (by omega)]
   simp
  ·unfold getCells
   rw [hH]
   simp only
   rw [if_pos ⟨hwr, Nat.le_refl _, by omega⟩, List.drop_eq_getElem_cons hi]
   rw [List.getElem?_eq_getElem hi] at hv
   simp only [List.take_succ_cons, List.take_zero, Option.some.inj hv]

/-- A row that has just been made. -/
theorem own_new {H : AHeap} {e s n : Nat} {cs : List Value} (hl : cs.length = n * s) (hn : 0 < n) {L m : Nat} (hL : L = cs.length) (hm : m = cs.length) : Own (H ++ [.cells cs e m .row]) e s (.slice (some ⟨H.length, 0, some L⟩) n n) (some H.length) n cs := by
 subst hL; subst hm
 exact ⟨hl, hn, rfl, cs.length, Nat.le_refl _, append_get.1⟩
theorem own_nil {H : AHeap} {e s : Nat} : Own H e s (.slice none 0 0) none 0 [] := ⟨by simp, rfl, .inl rfl⟩

/-- A row that is handed back. -/
theorem gc_own {H H1 : AHeap} {e s n id : Nat} {x : Value} {cs : List Value} (h : Own H1 e s x (some id) n cs) (hid : H.length ≤ id) (hp : cs.all plain0 = true) :
  ∃ H', gc H [x] H1 = (.slice (some ⟨H.length, 0, some cs.length⟩) n n, H') ∧ Own H' e s (.slice (some ⟨H.length, 0, some cs.length⟩) n n) (some H.length) n cs ∧ Stay none H H' := by
 obtain ⟨hl, hn, rfl, wr, hwr, hH⟩ := h
 refine ⟨H ++ [.cells cs e wr .row], ?_, ⟨hl, hn, rfl, wr, hwr, append_get.1⟩, Stay.app none H _⟩
 unfold gc
 simp only [gcHeap]
 simp only [sliceIds, noDup, List.contains_nil, Bool.not_false, Bool.and_self, if_true, keepAll, keep1]
 rw [if_neg (by omega), hH]
 simp only
 rw [if_pos ⟨hp, trivial⟩]
 simp [tupled]

theorem gc_row {H H1 : AHeap} {e s n : Nat} {x : Value} {o : Option Nat} {cs : List Value} (h : Own H1 e s x o n cs) (hid : ∀ id, o = some id → H.length ≤ id) (hp : cs.all plain0 = true) {ps : List Value} (hps : ps.all plain1 = true) :
  ∃ x' o' H', gc H (x :: ps) H1 = (tupled (x' :: ps), H') ∧ Own H' e s x' o' n cs ∧ Stay none H H' ∧ (∀ id, o' = some id → H.length ≤ id) ∧ (o = none → o' = none) := by
 have h2 := h.2
 cases o with
 | none =>
  obtain ⟨rfl, hx⟩ := h2
  refine ⟨x, none, H, ?_, ⟨h.1, rfl, hx⟩, Stay.refl _ _, fun id h => (by cases h), fun _ => rfl⟩
  rcases hx with rfl | rfl
  ·exact gc_plain (by simp [plain1, plain0, hps])
  ·unfold gc
   simp only [gcHeap]
   have e1 : sliceIds (emptySlice :: ps) = sliceIds ps := rfl
   rw [e1, sliceIds_plain ps hps]
   simp only [noDup, if_true, keepAll]
   have e2 : keep1 H.length H1 emptySlice [] = some (emptySlice, []) := rfl
   rw [e2, Option.bind_some, keepAll_plain ps [] hps]
   simp
 | some id =>
  obtain ⟨hn, rfl, wr, hwr, hH⟩ := h2
  refine ⟨.slice (some ⟨H.length, 0, some cs.length⟩) n n, some H.length, H ++ [.cells cs e wr .row], ?_, ⟨h.1, hn, rfl, wr, hwr, append_get.1⟩, Stay.app none H _, fun id h => (by cases h; exact Nat.le_refl _), fun h => (by cases h)⟩
  have hge := hid id rfl
  unfold gc
  simp only [gcHeap]
  simp only [sliceIds, sliceIds_plain ps hps, noDup, List.contains_nil, Bool.not_false, Bool.and_self, if_true, keepAll, keep1]
  rw [if_neg (by omega), hH]
  simp only
  rw [if_pos ⟨hp, trivial⟩, Option.bind_some, keepAll_plain ps _ hps]
  simp

/-- The same, with a bound on where it lies. -/
theorem own_app {P : Program} {t e s by_ : Nat} (T : ElemT P t e s by_) {H : AHeap} {x : Value} {o : Option Nat} {n : Nat} {cs : List Value} (h : Own H e s x o n cs) {ecs : List Value} (he : ecs.length = s) (hc : ecs.all isCell = true) {prot : Nat} {room : Bool}
  (hp : ∀ id, o = some id → prot ≤ id) (hB : prot ≤ H.length) (hroom : (n + 1) * by_ ≤ 140737488355328) {L : Nat} (hL : L = s) {el : Nat} (hel : el = ecs.length) :
  ∃ a' c' o' H', aappend P prot room t t x (.slice (some ⟨H.length, 0, some L⟩) 1 1) (H ++ [.cells ecs e el .row]) = some (.slice a' (n + 1) c', H') ∧ Own H' e s (.slice a' (n + 1) c') (some o') (n + 1) (cs ++ ecs) ∧ Stay o H H' ∧ prot ≤ o' ∧ (o = none → H.length ≤ o') ∧ (∀ id, o = some id → o' = id) := by
 obtain ⟨x', o', H', h1, h2, h3, h4⟩ := own_append T h he hc (prot := prot) (room := room) hp hroom hL hel
 obtain ⟨a', c', rfl⟩ := h2.len
 refine ⟨a', c', o', H', h1, h2, h3, ?_, ?_, ?_⟩
 ·rcases h4 with h4 | ⟨_, h4⟩
  ·exact hp _ h4
  ·exact Nat.le_trans hB h4
 ·intro ho
  rcases h4 with h4 | ⟨_, h4⟩
  ·rw [ho] at h4; cases h4
  ·exact h4
 ·intro id ho
  rcases h4 with h4 | ⟨h4, _⟩
  ·rw [ho] at h4; cases h4; rfl
  ·rw [ho] at h4; cases h4

/-- An element of more cells is read. -/
theorem own_atS {P : Program} {t e s by_ : Nat} (T : ElemT P t e s by_) {H : AHeap} {x : Value} {o : Option Nat} {n : Nat} {cs : List Value} (h : Own H e s x o n cs) {i : Nat} (hi : i < n) :
  ∃ id, o = some id ∧ aindexAddr P t x (.int .i64 i) = some (.pointer (some ⟨id, i * s, some cs.length⟩)) ∧ (∀ j m, j + m ≤ s → getCells H id cs.length (i * s + j) m = some ((cs.drop (i * s + j)).take m)) := by
 have hlen := h.1
 have h2 := h.2
 cases o with
 | none => obtain ⟨rfl, _⟩ := h2; omega
 | some id =>
  obtain ⟨hn, rfl, wr, hwr, hH⟩ := h2
  refine ⟨id, rfl, ?_, fun j m hj => ?_⟩
  ·unfold aindexAddr
   rw [T.un]
   simp only [T.sz, Option.bind_some]
   rw [if_pos (by omega)]
   simp
  ·have : (i + 1) * s ≤ n * s := Nat.mul_le_mul (by omega) (Nat.le_refl s)
   rw [Nat.add_mul, Nat.one_mul] at this
   unfold getCells
   rw [hH]
   simp only
   rw [if_pos ⟨hwr, Nat.le_refl _, by omega⟩]
/-- A part of an element is written: the slice is this function's own. -/
theorem own_setS {P : Program} {t e s by_ : Nat} (T : ElemT P t e s by_) {H : AHeap} {x : Value} {o : Option Nat} {n : Nat} {cs : List Value} (h : Own H e s x o n cs) {i j : Nat} (hi : i < n) {vs : List Value} (hj : j + vs.length ≤ s) (hv : vs.all isCell = true) {prot : Nat} (hp : ∀ id, o = some id → prot ≤ id) :
  ∃ id H', o = some id ∧ aindexAddr P t x (.int .i64 i) = some (.pointer (some ⟨id, i * s, some cs.length⟩)) ∧ setCells H prot id cs.length (i * s + j) vs = some H' ∧ Own H' e s x o n (putList cs (i * s + j) vs) ∧ Stay o H H' ∧ H'.length = H.length := by
 have hlen := h.1
 have h2 := h.2
 cases o with
 | none => obtain ⟨rfl, _⟩ := h2; omega
 | some id =>
  obtain ⟨hn, rfl, wr, hwr, hH⟩ := h2
  have hle : (i + 1) * s ≤ n * s := Nat.mul_le_mul (by omega) (Nat.le_refl s)
  rw [Nat.add_mul, Nat.one_mul] at hle
  have h0 : Own H e s (.slice (some ⟨id, 0, some cs.length⟩) n n) (some id) n cs := ⟨hlen, hn, rfl, wr, hwr, hH⟩
  obtain ⟨id2, hid2, ha, _⟩ := own_atS T h0 hi
  cases hid2
  have hpl : (putList cs (i * s + j) vs).length = cs.length := by unfold putList; simp only [List.length_append, List.length_take, List.length_drop]; omega
  refine ⟨id, H.set id (.cells (putList cs (i * s + j) vs) e cs.length .row), rfl, ha, ?_, ⟨by rw [hpl, hlen], hn, by rw [hpl], cs.length, by rw [hpl]; exact Nat.le_refl _, ?_⟩, ?_, by simp⟩
  ·unfold setCells
   rw [hH]
   simp only
   rw [if_pos ⟨rfl, hp id rfl, trivial, by omega, hv⟩]
  ·exact List.getElem?_set_self (List.getElem?_eq_some_iff.1 hH).1
  ·exact ⟨by simp, fun q hq hne => List.getElem?_set_ne (fun e => hne (by rw [e]))⟩
end Go.Proofs.Ythjkodbinkiifaa.Am
namespace Go.Proofs.Ythjkodbinkiifaa.Am
open Go

/-- A slice that may be read: nil, empty, or the head of an object of any kind. -/
def Rd (H : AHeap) (e s : Nat) (x : Value) (n : Nat) (cs : List Value) : Prop :=
 cs.length = n * s ∧ ((n = 0 ∧ (x = .slice none 0 0 ∨ x = emptySlice)) ∨ ∃ id L wr md c all, x = .slice (some ⟨id, 0, some L⟩) n c ∧ wr ≤ L ∧ L ≤ all.length ∧ n * s ≤ L ∧ H[id]? = some (.cells all e wr md) ∧ cs = all.take (n * s))

theorem Own.rd {H : AHeap} {e s : Nat} {x : Value} {o : Option Nat} {n : Nat} {cs : List Value} (h : Own H e s x o n cs) : Rd H e s x n cs := by
 refine ⟨h.1, ?_⟩
 have h1 := h.1
 have h2 := h.2
 cases o with
 | none => exact .inl ⟨h2.1, h2.2⟩
 | some id =>
  obtain ⟨a, b, wr, c, d⟩ := h2
  exact .inr ⟨id, cs.length, wr, .row, n, cs, b, c, Nat.le_refl _, by omega, d, by rw [← h1, List.take_length]⟩
theorem Rd.len {H : AHeap} {e s : Nat} {x : Value} {n : Nat} {cs : List Value} (h : Rd H e s x n cs) : ∃ a c, x = .slice a n c := by
 rcases h.2 with ⟨rfl, rfl | rfl⟩ | ⟨id, L, wr, md, c, all, rfl, _⟩
 ·exact ⟨_, _, rfl⟩
 ·exact ⟨_, _, rfl⟩
 ·exact ⟨_, _, rfl⟩
theorem Rd.stay {H H' : AHeap} {e s : Nat} {x : Value} {n : Nat} {cs : List Value} (h : Rd H e s x n cs) (k : Stay none H H') : Rd H' e s x n cs := by
 refine ⟨h.1, ?_⟩
 rcases h.2 with h2 | ⟨id, L, wr, md, c, all, h2, h3, h4, h5, h6, h7⟩
 ·exact .inl h2
 ·exact .inr ⟨id, L, wr, md, c, all, h2, h3, h4, h5, by rw [k.2 id (List.getElem?_eq_some_iff.1 h6).1 (by simp)]; exact h6, h7⟩
/-- It lies below. -/
def Low (B : Nat) (x : Value) : Prop := ∀ id off L n c, x = .slice (some ⟨id, off, some L⟩) n c → id < B
theorem Rd.low {H : AHeap} {e s : Nat} {x : Value} {n : Nat} {cs : List Value} (h : Rd H e s x n cs) : Low H.length x := fun id off L n' c hx => by
 rcases h.2 with ⟨_, h2 | h2⟩ | ⟨id', L', wr, md, c', all, h2, h3, h4, h5, h6, h7⟩
 ·rw [h2] at hx; cases hx
 ·rw [h2] at hx; cases hx
 ·rw [h2] at hx; cases hx
  exact (List.getElem?_eq_some_iff.1 h6).1
theorem Low.mono {B B' : Nat} {x : Value} (h : Low B x) (hb : B ≤ B') : Low B' x := fun id off L n c hx => Nat.lt_of_lt_of_le (h id off L n c hx) hb
/-- What is written lies above. -/
theorem Rd.stayLow {H H' : AHeap} {e s : Nat} {x : Value} {n : Nat} {cs : List Value} {B : Nat} (h : Rd H e s x n cs) (hb : Low B x) {o : Option Nat} (k : Stay o H H') (ho : ∀ id, o = some id → B ≤ id) : Rd H' e s x n cs := by
 refine ⟨h.1, ?_⟩
 rcases h.2 with h2 | ⟨id, L, wr, md, c, all, h2, h3, h4, h5, h6, h7⟩
 ·exact .inl h2
 ·exact .inr ⟨id, L, wr, md, c, all, h2, h3, h4, h5, by rw [k.2 id (List.getElem?_eq_some_iff.1 h6).1 (fun e => by have := ho id e; have := hb id _ _ _ c h2; omega)]; exact h6, h7⟩

theorem rd_atS {P : Program} {t e s by_ : Nat} (T : ElemT P t e s by_) {H : AHeap} {x : Value} {n : Nat} {cs : List Value} (h : Rd H e s x n cs) {i : Nat} (hi : i < n) :
  ∃ id L, aindexAddr P t x (.int .i64 i) = some (.pointer (some ⟨id, i * s, some L⟩)) ∧ (∀ j m, j + m ≤ s → getCells H id L (i * s + j) m = some ((cs.drop (i * s + j)).take m)) := by
 have hlen := h.1
 rcases h.2 with ⟨rfl, _⟩ | ⟨id, L, wr, md, c, all, rfl, hwr, hL, hn, hH, hcs⟩
 ·omega
 ·refine ⟨id, L, ?_, fun j m hj => ?_⟩
  ·unfold aindexAddr
   rw [T.un]
   simp only [T.sz, Option.bind_some]
   rw [if_pos (by omega)]
   simp
  ·have : (i + 1) * s ≤ n * s := Nat.mul_le_mul (by omega) (Nat.le_refl s)
   rw [Nat.add_mul, Nat.one_mul] at this
   unfold getCells
   rw [hH]
   simp only
   rw [if_pos ⟨hwr, hL, by omega⟩, hcs, List.drop_take, List.take_take, Nat.min_eq_left (by omega)]
theorem rd_at {P : Program} {t e by_ : Nat} (T : ElemT P t e 1 by_) {H : AHeap} {x : Value} {n : Nat} {cs : List Value} (h : Rd H e 1 x n cs) {i : Nat} {v : Value} (hv : cs[i]? = some v) :
  ∃ id L, aindexAddr P t x (.int .i64 i) = some (.pointer (some ⟨id, i, some L⟩)) ∧ getCells H id L i 1 = some [v] := by
 have hi := (List.getElem?_eq_some_iff.1 hv).1
 have hlen := h.1
 obtain ⟨id, L, g1, g2⟩ := rd_atS T h (i := i) (by omega)
 refine ⟨id, L, by simpa using g1, ?_⟩
 have g3 := g2 0 1 (by omega)
 simp only [Nat.mul_one, Nat.add_zero] at g3
 rw [g3, List.drop_eq_getElem_cons hi]
 rw [List.getElem?_eq_getElem hi] at hv
 simp [Option.some.inj hv]
/-- All of it, as the source of an append or a copy. -/
theorem rd_src {P : Program} {t e s : Nat} (hu : P.underlying t = some (.slice e)) {H : AHeap} {x : Value} {n : Nat} {cs : List Value} (h : Rd H e s x n cs) : srcCells P s t x H = some (n, cs) := by
 unfold srcCells
 rw [hu]
 have hlen := h.1
 rcases h.2 with ⟨rfl, rfl | rfl⟩ | ⟨id, L, wr, md, c, all, rfl, hwr, hL, hn, hH, hcs⟩
 ·have : cs = [] := List.eq_nil_of_length_eq_zero (by omega)
  subst this; rfl
 ·have : cs = [] := List.eq_nil_of_length_eq_zero (by omega)
  subst this; rfl
 ·simp only [cellsAt]
  unfold getCells
  rw [hH]
  simp only
  rw [if_pos ⟨hwr, hL, by omega⟩, List.drop_zero, ← hcs]
  rfl

/-- The parts of a boxed struct of three cells. -/
theorem fld3 {H : AHeap} {p : Nat} {a b c : Value} {e : TypeId} {md : OMode} (h : H[p]? = some (.cells [a, b, c] e 3 md)) :
  getCells H p 3 (0 + 0) 1 = some [a] ∧ getCells H p 3 (0 + 1) 1 = some [b] ∧ getCells H p 3 (0 + 2) 1 = some [c] ∧ getCells H p 3 0 3 = some [a, b, c] := by
 unfold getCells
 rw [h]
 exact ⟨rfl, rfl, rfl, rfl⟩
end Go.Proofs.Ythjkodbinkiifaa.Am
