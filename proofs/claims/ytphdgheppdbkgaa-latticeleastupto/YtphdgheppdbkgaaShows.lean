/- The code is the program's. -/
import Derived.Test.YtphdgheppdbkgaaCode0
import Derived.Test.YtphdgheppdbkgaaProg
import Derived.KernelRfl
set_option linter.unusedSimpArgs false
set_option linter.unusedVariables false
set_option maxRecDepth 100000
set_option maxHeartbeats 4000000
namespace Bz.S
open Go Bz
theorem shows_law32_LatticeTells : Shows Go.Proofs.Try.prog F_law32_LatticeTells code_law32_LatticeTells := ⟨_, _, Go.Proofs.Try.func3, rfl, by kernel_rfl, by kernel_rfl, by kernel_rfl, by kernel_rfl, by kernel_rfl⟩
theorem shows_law32_LatticeLaws : Shows Go.Proofs.Try.prog F_law32_LatticeLaws code_law32_LatticeLaws := ⟨_, _, Go.Proofs.Try.func4, rfl, by kernel_rfl, by kernel_rfl, by kernel_rfl, by kernel_rfl, by kernel_rfl⟩
theorem shows_law32_LatticeLeast : Shows Go.Proofs.Try.prog F_law32_LatticeLeast code_law32_LatticeLeast := ⟨_, _, Go.Proofs.Try.func5, rfl, by kernel_rfl, by kernel_rfl, by kernel_rfl, by kernel_rfl, by kernel_rfl⟩
theorem shows_law32_LatticeFlows : Shows Go.Proofs.Try.prog F_law32_LatticeFlows code_law32_LatticeFlows := ⟨_, _, Go.Proofs.Try.func6, rfl, by kernel_rfl, by kernel_rfl, by kernel_rfl, by kernel_rfl, by kernel_rfl⟩
theorem shows_law32_alive : Shows Go.Proofs.Try.prog F_law32_alive code_law32_alive := ⟨_, _, Go.Proofs.Try.func7, rfl, by kernel_rfl, by kernel_rfl, by kernel_rfl, by kernel_rfl, by kernel_rfl⟩
theorem shows_law32_all : Shows Go.Proofs.Try.prog F_law32_all code_law32_all := ⟨_, _, Go.Proofs.Try.func8, rfl, by kernel_rfl, by kernel_rfl, by kernel_rfl, by kernel_rfl, by kernel_rfl⟩
theorem shows_lattice_Join : Shows Go.Proofs.Try.prog F_lattice_Join code_lattice_Join := ⟨_, _, Go.Proofs.Try.func9, rfl, by kernel_rfl, by kernel_rfl, by kernel_rfl, by kernel_rfl, by kernel_rfl⟩
theorem shows_lattice_Meet : Shows Go.Proofs.Try.prog F_lattice_Meet code_lattice_Meet := ⟨_, _, Go.Proofs.Try.func10, rfl, by kernel_rfl, by kernel_rfl, by kernel_rfl, by kernel_rfl, by kernel_rfl⟩
theorem shows_plain_In : Shows Go.Proofs.Try.prog F_plain_In code_plain_In := ⟨_, _, Go.Proofs.Try.func11, rfl, by kernel_rfl, by kernel_rfl, by kernel_rfl, by kernel_rfl, by kernel_rfl⟩
theorem shows_plain_Rising : Shows Go.Proofs.Try.prog F_plain_Rising code_plain_Rising := ⟨_, _, Go.Proofs.Try.func13, rfl, by kernel_rfl, by kernel_rfl, by kernel_rfl, by kernel_rfl, by kernel_rfl⟩
theorem shows_law32_same : Shows Go.Proofs.Try.prog F_law32_same code_law32_same := ⟨_, _, Go.Proofs.Try.func12, rfl, by kernel_rfl, by kernel_rfl, by kernel_rfl, by kernel_rfl, by kernel_rfl⟩
theorem shows_lattice_Check : Shows Go.Proofs.Try.prog F_lattice_Check code_lattice_Check := ⟨_, _, Go.Proofs.Try.func14, rfl, by kernel_rfl, by kernel_rfl, by kernel_rfl, by kernel_rfl, by kernel_rfl⟩
theorem shows_law32_may : Shows Go.Proofs.Try.prog F_law32_may code_law32_may := ⟨_, _, Go.Proofs.Try.func15, rfl, by kernel_rfl, by kernel_rfl, by kernel_rfl, by kernel_rfl, by kernel_rfl⟩
theorem shows_lattice_Under : Shows Go.Proofs.Try.prog F_lattice_Under code_lattice_Under := ⟨_, _, Go.Proofs.Try.func16, rfl, by kernel_rfl, by kernel_rfl, by kernel_rfl, by kernel_rfl, by kernel_rfl⟩
theorem shows_lattice_Write : Shows Go.Proofs.Try.prog F_lattice_Write code_lattice_Write := ⟨_, _, Go.Proofs.Try.func17, rfl, by kernel_rfl, by kernel_rfl, by kernel_rfl, by kernel_rfl, by kernel_rfl⟩
theorem shows_lattice_Read : Shows Go.Proofs.Try.prog F_lattice_Read code_lattice_Read := ⟨_, _, Go.Proofs.Try.func18, rfl, by kernel_rfl, by kernel_rfl, by kernel_rfl, by kernel_rfl, by kernel_rfl⟩
theorem shows_lattice_Range : Shows Go.Proofs.Try.prog F_lattice_Range code_lattice_Range := ⟨_, _, Go.Proofs.Try.func19, rfl, by kernel_rfl, by kernel_rfl, by kernel_rfl, by kernel_rfl, by kernel_rfl⟩
theorem shows_plain_Texts : Shows Go.Proofs.Try.prog F_plain_Texts code_plain_Texts := ⟨_, _, Go.Proofs.Try.func20, rfl, by kernel_rfl, by kernel_rfl, by kernel_rfl, by kernel_rfl, by kernel_rfl⟩
theorem shows_slices_Concat_string_string : Shows Go.Proofs.Try.prog F_slices_Concat_string_string code_slices_Concat_string_string := ⟨_, _, Go.Proofs.Try.func22, rfl, by kernel_rfl, by kernel_rfl, by kernel_rfl, by kernel_rfl, by kernel_rfl⟩
theorem shows_lattice_rising_string : Shows Go.Proofs.Try.prog F_lattice_rising_string code_lattice_rising_string := ⟨_, _, Go.Proofs.Try.func21, rfl, by kernel_rfl, by kernel_rfl, by kernel_rfl, by kernel_rfl, by kernel_rfl⟩
theorem shows_slices_Contains_string_string : Shows Go.Proofs.Try.prog F_slices_Contains_string_string code_slices_Contains_string_string := ⟨_, _, Go.Proofs.Try.func23, rfl, by kernel_rfl, by kernel_rfl, by kernel_rfl, by kernel_rfl, by kernel_rfl⟩
theorem shows_lex_Name : Shows Go.Proofs.Try.prog F_lex_Name code_lex_Name := ⟨_, _, Go.Proofs.Try.func24, rfl, by kernel_rfl, by kernel_rfl, by kernel_rfl, by kernel_rfl, by kernel_rfl⟩
theorem shows_ref06_Name : Shows Go.Proofs.Try.prog F_ref06_Name code_ref06_Name := ⟨_, _, Go.Proofs.Try.func25, rfl, by kernel_rfl, by kernel_rfl, by kernel_rfl, by kernel_rfl, by kernel_rfl⟩
theorem shows_lattice_within_string : Shows Go.Proofs.Try.prog F_lattice_within_string code_lattice_within_string := ⟨_, _, Go.Proofs.Try.func26, rfl, by kernel_rfl, by kernel_rfl, by kernel_rfl, by kernel_rfl, by kernel_rfl⟩
theorem shows_slices_Grow_string_string : Shows Go.Proofs.Try.prog F_slices_Grow_string_string code_slices_Grow_string_string := ⟨_, _, Go.Proofs.Try.func29, rfl, by kernel_rfl, by kernel_rfl, by kernel_rfl, by kernel_rfl, by kernel_rfl⟩
theorem shows_slices_Sort_string_string : Shows Go.Proofs.Try.prog F_slices_Sort_string_string code_slices_Sort_string_string := ⟨_, _, Go.Proofs.Try.func27, rfl, by kernel_rfl, by kernel_rfl, by kernel_rfl, by kernel_rfl, by kernel_rfl⟩
theorem shows_slices_Compact_string_string : Shows Go.Proofs.Try.prog F_slices_Compact_string_string code_slices_Compact_string_string := ⟨_, _, Go.Proofs.Try.func28, rfl, by kernel_rfl, by kernel_rfl, by kernel_rfl, by kernel_rfl, by kernel_rfl⟩
theorem shows_slices_Index_string_string : Shows Go.Proofs.Try.prog F_slices_Index_string_string code_slices_Index_string_string := ⟨_, _, Go.Proofs.Try.func30, rfl, by kernel_rfl, by kernel_rfl, by kernel_rfl, by kernel_rfl, by kernel_rfl⟩
theorem shows_lex_letter : Shows Go.Proofs.Try.prog F_lex_letter code_lex_letter := ⟨_, _, Go.Proofs.Try.func31, rfl, by kernel_rfl, by kernel_rfl, by kernel_rfl, by kernel_rfl, by kernel_rfl⟩
theorem shows_lex_digit : Shows Go.Proofs.Try.prog F_lex_digit code_lex_digit := ⟨_, _, Go.Proofs.Try.func32, rfl, by kernel_rfl, by kernel_rfl, by kernel_rfl, by kernel_rfl, by kernel_rfl⟩
theorem shows_ref06_head : Shows Go.Proofs.Try.prog F_ref06_head code_ref06_head := ⟨_, _, Go.Proofs.Try.func33, rfl, by kernel_rfl, by kernel_rfl, by kernel_rfl, by kernel_rfl, by kernel_rfl⟩
theorem shows_ref06_tail : Shows Go.Proofs.Try.prog F_ref06_tail code_ref06_tail := ⟨_, _, Go.Proofs.Try.func34, rfl, by kernel_rfl, by kernel_rfl, by kernel_rfl, by kernel_rfl, by kernel_rfl⟩
theorem shows_math_bits_Len : Shows Go.Proofs.Try.prog F_math_bits_Len code_math_bits_Len := ⟨_, _, Go.Proofs.Try.func36, rfl, by kernel_rfl, by kernel_rfl, by kernel_rfl, by kernel_rfl, by kernel_rfl⟩
theorem shows_slices_pdqsortOrdered_string : Shows Go.Proofs.Try.prog F_slices_pdqsortOrdered_string code_slices_pdqsortOrdered_string := ⟨_, _, Go.Proofs.Try.func35, rfl, by kernel_rfl, by kernel_rfl, by kernel_rfl, by kernel_rfl, by kernel_rfl⟩
theorem shows_math_bits_Len32 : Shows Go.Proofs.Try.prog F_math_bits_Len32 code_math_bits_Len32 := ⟨_, _, Go.Proofs.Try.func46, rfl, by kernel_rfl, by kernel_rfl, by kernel_rfl, by kernel_rfl, by kernel_rfl⟩
theorem shows_math_bits_Len64 : Shows Go.Proofs.Try.prog F_math_bits_Len64 code_math_bits_Len64 := ⟨_, _, Go.Proofs.Try.func47, rfl, by kernel_rfl, by kernel_rfl, by kernel_rfl, by kernel_rfl, by kernel_rfl⟩
theorem shows_slices_insertionSortOrdered_string : Shows Go.Proofs.Try.prog F_slices_insertionSortOrdered_string code_slices_insertionSortOrdered_string := ⟨_, _, Go.Proofs.Try.func37, rfl, by kernel_rfl, by kernel_rfl, by kernel_rfl, by kernel_rfl, by kernel_rfl⟩
theorem shows_slices_heapSortOrdered_string : Shows Go.Proofs.Try.prog F_slices_heapSortOrdered_string code_slices_heapSortOrdered_string := ⟨_, _, Go.Proofs.Try.func38, rfl, by kernel_rfl, by kernel_rfl, by kernel_rfl, by kernel_rfl, by kernel_rfl⟩
theorem shows_slices_breakPatternsOrdered_string : Shows Go.Proofs.Try.prog F_slices_breakPatternsOrdered_string code_slices_breakPatternsOrdered_string := ⟨_, _, Go.Proofs.Try.func39, rfl, by kernel_rfl, by kernel_rfl, by kernel_rfl, by kernel_rfl, by kernel_rfl⟩
theorem shows_slices_choosePivotOrdered_string : Shows Go.Proofs.Try.prog F_slices_choosePivotOrdered_string code_slices_choosePivotOrdered_string := ⟨_, _, Go.Proofs.Try.func40, rfl, by kernel_rfl, by kernel_rfl, by kernel_rfl, by kernel_rfl, by kernel_rfl⟩
theorem shows_slices_reverseRangeOrdered_string : Shows Go.Proofs.Try.prog F_slices_reverseRangeOrdered_string code_slices_reverseRangeOrdered_string := ⟨_, _, Go.Proofs.Try.func41, rfl, by kernel_rfl, by kernel_rfl, by kernel_rfl, by kernel_rfl, by kernel_rfl⟩
theorem shows_slices_partialInsertionSortOrdered_string : Shows Go.Proofs.Try.prog F_slices_partialInsertionSortOrdered_string code_slices_partialInsertionSortOrdered_string := ⟨_, _, Go.Proofs.Try.func42, rfl, by kernel_rfl, by kernel_rfl, by kernel_rfl, by kernel_rfl, by kernel_rfl⟩
theorem shows_cmp_Less_string : Shows Go.Proofs.Try.prog F_cmp_Less_string code_cmp_Less_string := ⟨_, _, Go.Proofs.Try.func43, rfl, by kernel_rfl, by kernel_rfl, by kernel_rfl, by kernel_rfl, by kernel_rfl⟩
theorem shows_slices_partitionEqualOrdered_string : Shows Go.Proofs.Try.prog F_slices_partitionEqualOrdered_string code_slices_partitionEqualOrdered_string := ⟨_, _, Go.Proofs.Try.func44, rfl, by kernel_rfl, by kernel_rfl, by kernel_rfl, by kernel_rfl, by kernel_rfl⟩
theorem shows_slices_partitionOrdered_string : Shows Go.Proofs.Try.prog F_slices_partitionOrdered_string code_slices_partitionOrdered_string := ⟨_, _, Go.Proofs.Try.func45, rfl, by kernel_rfl, by kernel_rfl, by kernel_rfl, by kernel_rfl, by kernel_rfl⟩
theorem shows_slices_siftDownOrdered_string : Shows Go.Proofs.Try.prog F_slices_siftDownOrdered_string code_slices_siftDownOrdered_string := ⟨_, _, Go.Proofs.Try.func48, rfl, by kernel_rfl, by kernel_rfl, by kernel_rfl, by kernel_rfl, by kernel_rfl⟩
theorem shows_slices_nextPowerOfTwo : Shows Go.Proofs.Try.prog F_slices_nextPowerOfTwo code_slices_nextPowerOfTwo := ⟨_, _, Go.Proofs.Try.func49, rfl, by kernel_rfl, by kernel_rfl, by kernel_rfl, by kernel_rfl, by kernel_rfl⟩
theorem shows_slices_xorshift_Next : Shows Go.Proofs.Try.prog F_slices_xorshift_Next code_slices_xorshift_Next := ⟨_, _, Go.Proofs.Try.func50, rfl, by kernel_rfl, by kernel_rfl, by kernel_rfl, by kernel_rfl, by kernel_rfl⟩
theorem shows_slices_medianAdjacentOrdered_string : Shows Go.Proofs.Try.prog F_slices_medianAdjacentOrdered_string code_slices_medianAdjacentOrdered_string := ⟨_, _, Go.Proofs.Try.func51, rfl, by kernel_rfl, by kernel_rfl, by kernel_rfl, by kernel_rfl, by kernel_rfl⟩
theorem shows_slices_medianOrdered_string : Shows Go.Proofs.Try.prog F_slices_medianOrdered_string code_slices_medianOrdered_string := ⟨_, _, Go.Proofs.Try.func52, rfl, by kernel_rfl, by kernel_rfl, by kernel_rfl, by kernel_rfl, by kernel_rfl⟩
theorem shows_cmp_isNaN_string : Shows Go.Proofs.Try.prog F_cmp_isNaN_string code_cmp_isNaN_string := ⟨_, _, Go.Proofs.Try.func53, rfl, by kernel_rfl, by kernel_rfl, by kernel_rfl, by kernel_rfl, by kernel_rfl⟩
theorem shows_slices_order2Ordered_string : Shows Go.Proofs.Try.prog F_slices_order2Ordered_string code_slices_order2Ordered_string := ⟨_, _, Go.Proofs.Try.func54, rfl, by kernel_rfl, by kernel_rfl, by kernel_rfl, by kernel_rfl, by kernel_rfl⟩
theorem codeL_ok : TableOK Go.Proofs.Try.prog codeL := ⟨shows_law32_LatticeTells,
  ⟨shows_law32_LatticeLaws,
  ⟨shows_law32_LatticeLeast,
  ⟨shows_law32_LatticeFlows,
  ⟨shows_law32_alive,
  ⟨shows_law32_all,
  ⟨shows_lattice_Join,
  ⟨shows_lattice_Meet,
  ⟨shows_plain_In,
  ⟨shows_plain_Rising,
  ⟨shows_law32_same,
  ⟨shows_lattice_Check,
  ⟨shows_law32_may,
  ⟨shows_lattice_Under,
  ⟨shows_lattice_Write,
  ⟨shows_lattice_Read,
  ⟨shows_lattice_Range,
  ⟨shows_plain_Texts,
  ⟨shows_slices_Concat_string_string,
  ⟨shows_lattice_rising_string,
  ⟨shows_slices_Contains_string_string,
  ⟨shows_lex_Name,
  ⟨shows_ref06_Name,
  ⟨shows_lattice_within_string,
  ⟨shows_slices_Grow_string_string,
  ⟨shows_slices_Sort_string_string,
  ⟨shows_slices_Compact_string_string,
  ⟨shows_slices_Index_string_string,
  ⟨shows_lex_letter,
  ⟨shows_lex_digit,
  ⟨shows_ref06_head,
  ⟨shows_ref06_tail,
  ⟨shows_math_bits_Len,
  ⟨shows_slices_pdqsortOrdered_string,
  ⟨shows_math_bits_Len32,
  ⟨shows_math_bits_Len64,
  ⟨shows_slices_insertionSortOrdered_string,
  ⟨shows_slices_heapSortOrdered_string,
  ⟨shows_slices_breakPatternsOrdered_string,
  ⟨shows_slices_choosePivotOrdered_string,
  ⟨shows_slices_reverseRangeOrdered_string,
  ⟨shows_slices_partialInsertionSortOrdered_string,
  ⟨shows_cmp_Less_string,
  ⟨shows_slices_partitionEqualOrdered_string,
  ⟨shows_slices_partitionOrdered_string,
  ⟨shows_slices_siftDownOrdered_string,
  ⟨shows_slices_nextPowerOfTwo,
  ⟨shows_slices_xorshift_Next,
  ⟨shows_slices_medianAdjacentOrdered_string,
  ⟨shows_slices_medianOrdered_string,
  ⟨shows_cmp_isNaN_string,
  ⟨shows_slices_order2Ordered_string,
  trivial⟩⟩⟩⟩⟩⟩⟩⟩⟩⟩⟩⟩⟩⟩⟩⟩⟩⟩⟩⟩⟩⟩⟩⟩⟩⟩⟩⟩⟩⟩⟩⟩⟩⟩⟩⟩⟩⟩⟩⟩⟩⟩⟩⟩⟩⟩⟩⟩⟩⟩⟩⟩
theorem code_ok (f : Nat) (fn : AFunc) (h : code f = some fn) : Shows Go.Proofs.Try.prog f fn := tableAt_ok codeL_ok h
end Bz.S
