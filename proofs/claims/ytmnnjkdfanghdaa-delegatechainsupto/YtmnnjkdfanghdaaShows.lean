/- The code is the program's. -/
import Derived.Test.YtmnnjkdfanghdaaCode0
import Derived.Test.YtmnnjkdfanghdaaProg
import Derived.KernelRfl
set_option linter.unusedSimpArgs false
set_option linter.unusedVariables false
set_option maxRecDepth 100000
set_option maxHeartbeats 4000000
namespace Bz.S
open Go Bz
theorem shows_law35_DelegateTells : Shows Go.Proofs.Try.prog F_law35_DelegateTells code_law35_DelegateTells := ⟨_, _, Go.Proofs.Try.func3, rfl, by kernel_rfl, by kernel_rfl, by kernel_rfl, by kernel_rfl, by kernel_rfl⟩
theorem shows_law35_DelegateChains : Shows Go.Proofs.Try.prog F_law35_DelegateChains code_law35_DelegateChains := ⟨_, _, Go.Proofs.Try.func4, rfl, by kernel_rfl, by kernel_rfl, by kernel_rfl, by kernel_rfl, by kernel_rfl⟩
theorem shows_law35_DelegateMore : Shows Go.Proofs.Try.prog F_law35_DelegateMore code_law35_DelegateMore := ⟨_, _, Go.Proofs.Try.func5, rfl, by kernel_rfl, by kernel_rfl, by kernel_rfl, by kernel_rfl, by kernel_rfl⟩
theorem shows_law35_DelegateBound : Shows Go.Proofs.Try.prog F_law35_DelegateBound code_law35_DelegateBound := ⟨_, _, Go.Proofs.Try.func6, rfl, by kernel_rfl, by kernel_rfl, by kernel_rfl, by kernel_rfl, by kernel_rfl⟩
theorem shows_law35_alive : Shows Go.Proofs.Try.prog F_law35_alive code_law35_alive := ⟨_, _, Go.Proofs.Try.func7, rfl, by kernel_rfl, by kernel_rfl, by kernel_rfl, by kernel_rfl, by kernel_rfl⟩
theorem shows_law35_few : Shows Go.Proofs.Try.prog F_law35_few code_law35_few := ⟨_, _, Go.Proofs.Try.func8, rfl, by kernel_rfl, by kernel_rfl, by kernel_rfl, by kernel_rfl, by kernel_rfl⟩
theorem shows_law35_find : Shows Go.Proofs.Try.prog F_law35_find code_law35_find := ⟨_, _, Go.Proofs.Try.func9, rfl, by kernel_rfl, by kernel_rfl, by kernel_rfl, by kernel_rfl, by kernel_rfl⟩
theorem shows_law35_far : Shows Go.Proofs.Try.prog F_law35_far code_law35_far := ⟨_, _, Go.Proofs.Try.func10, rfl, by kernel_rfl, by kernel_rfl, by kernel_rfl, by kernel_rfl, by kernel_rfl⟩
theorem shows_delegate_Depth : Shows Go.Proofs.Try.prog F_delegate_Depth code_delegate_Depth := ⟨_, _, Go.Proofs.Try.func11, rfl, by kernel_rfl, by kernel_rfl, by kernel_rfl, by kernel_rfl, by kernel_rfl⟩
theorem shows_delegate_Holds : Shows Go.Proofs.Try.prog F_delegate_Holds code_delegate_Holds := ⟨_, _, Go.Proofs.Try.func12, rfl, by kernel_rfl, by kernel_rfl, by kernel_rfl, by kernel_rfl, by kernel_rfl⟩
theorem shows_plain_Rising : Shows Go.Proofs.Try.prog F_plain_Rising code_plain_Rising := ⟨_, _, Go.Proofs.Try.func15, rfl, by kernel_rfl, by kernel_rfl, by kernel_rfl, by kernel_rfl, by kernel_rfl⟩
theorem shows_plain_Texts : Shows Go.Proofs.Try.prog F_plain_Texts code_plain_Texts := ⟨_, _, Go.Proofs.Try.func13, rfl, by kernel_rfl, by kernel_rfl, by kernel_rfl, by kernel_rfl, by kernel_rfl⟩
theorem shows_delegate_Chain : Shows Go.Proofs.Try.prog F_delegate_Chain code_delegate_Chain := ⟨_, _, Go.Proofs.Try.func16, rfl, by kernel_rfl, by kernel_rfl, by kernel_rfl, by kernel_rfl, by kernel_rfl⟩
theorem shows_law35_by : Shows Go.Proofs.Try.prog F_law35_by code_law35_by := ⟨_, _, Go.Proofs.Try.func17, rfl, by kernel_rfl, by kernel_rfl, by kernel_rfl, by kernel_rfl, by kernel_rfl⟩
theorem shows_plain_In : Shows Go.Proofs.Try.prog F_plain_In code_plain_In := ⟨_, _, Go.Proofs.Try.func18, rfl, by kernel_rfl, by kernel_rfl, by kernel_rfl, by kernel_rfl, by kernel_rfl⟩
theorem shows_delegate_find : Shows Go.Proofs.Try.prog F_delegate_find code_delegate_find := ⟨_, _, Go.Proofs.Try.func19, rfl, by kernel_rfl, by kernel_rfl, by kernel_rfl, by kernel_rfl, by kernel_rfl⟩
theorem shows_delegate_reach_of : Shows Go.Proofs.Try.prog F_delegate_reach_of code_delegate_reach_of := ⟨_, _, Go.Proofs.Try.func20, rfl, by kernel_rfl, by kernel_rfl, by kernel_rfl, by kernel_rfl, by kernel_rfl⟩
theorem shows_slices_Sort_string_string : Shows Go.Proofs.Try.prog F_slices_Sort_string_string code_slices_Sort_string_string := ⟨_, _, Go.Proofs.Try.func21, rfl, by kernel_rfl, by kernel_rfl, by kernel_rfl, by kernel_rfl, by kernel_rfl⟩
theorem shows_delegate_Chain_1 : Shows Go.Proofs.Try.prog F_delegate_Chain_1 code_delegate_Chain_1 := ⟨_, _, Go.Proofs.Try.func23, rfl, by kernel_rfl, by kernel_rfl, by kernel_rfl, by kernel_rfl, by kernel_rfl⟩
theorem shows_slices_IndexFunc_delegate_Grant_delegate_Grant : Shows Go.Proofs.Try.prog F_slices_IndexFunc_delegate_Grant_delegate_Grant code_slices_IndexFunc_delegate_Grant_delegate_Grant := ⟨_, _, Go.Proofs.Try.func22, rfl, by kernel_rfl, by kernel_rfl, by kernel_rfl, by kernel_rfl, by kernel_rfl⟩
theorem shows_slices_Reverse_string_string : Shows Go.Proofs.Try.prog F_slices_Reverse_string_string code_slices_Reverse_string_string := ⟨_, _, Go.Proofs.Try.func25, rfl, by kernel_rfl, by kernel_rfl, by kernel_rfl, by kernel_rfl, by kernel_rfl⟩
theorem shows_delegate_reach_by : Shows Go.Proofs.Try.prog F_delegate_reach_by code_delegate_reach_by := ⟨_, _, Go.Proofs.Try.func24, rfl, by kernel_rfl, by kernel_rfl, by kernel_rfl, by kernel_rfl, by kernel_rfl⟩
theorem shows_math_bits_Len : Shows Go.Proofs.Try.prog F_math_bits_Len code_math_bits_Len := ⟨_, _, Go.Proofs.Try.func27, rfl, by kernel_rfl, by kernel_rfl, by kernel_rfl, by kernel_rfl, by kernel_rfl⟩
theorem shows_slices_pdqsortOrdered_string : Shows Go.Proofs.Try.prog F_slices_pdqsortOrdered_string code_slices_pdqsortOrdered_string := ⟨_, _, Go.Proofs.Try.func26, rfl, by kernel_rfl, by kernel_rfl, by kernel_rfl, by kernel_rfl, by kernel_rfl⟩
theorem shows_delegate_Grant_live : Shows Go.Proofs.Try.prog F_delegate_Grant_live code_delegate_Grant_live := ⟨_, _, Go.Proofs.Try.func28, rfl, by kernel_rfl, by kernel_rfl, by kernel_rfl, by kernel_rfl, by kernel_rfl⟩
theorem shows_math_bits_Len32 : Shows Go.Proofs.Try.prog F_math_bits_Len32 code_math_bits_Len32 := ⟨_, _, Go.Proofs.Try.func38, rfl, by kernel_rfl, by kernel_rfl, by kernel_rfl, by kernel_rfl, by kernel_rfl⟩
theorem shows_math_bits_Len64 : Shows Go.Proofs.Try.prog F_math_bits_Len64 code_math_bits_Len64 := ⟨_, _, Go.Proofs.Try.func39, rfl, by kernel_rfl, by kernel_rfl, by kernel_rfl, by kernel_rfl, by kernel_rfl⟩
theorem shows_slices_insertionSortOrdered_string : Shows Go.Proofs.Try.prog F_slices_insertionSortOrdered_string code_slices_insertionSortOrdered_string := ⟨_, _, Go.Proofs.Try.func29, rfl, by kernel_rfl, by kernel_rfl, by kernel_rfl, by kernel_rfl, by kernel_rfl⟩
theorem shows_slices_heapSortOrdered_string : Shows Go.Proofs.Try.prog F_slices_heapSortOrdered_string code_slices_heapSortOrdered_string := ⟨_, _, Go.Proofs.Try.func30, rfl, by kernel_rfl, by kernel_rfl, by kernel_rfl, by kernel_rfl, by kernel_rfl⟩
theorem shows_slices_breakPatternsOrdered_string : Shows Go.Proofs.Try.prog F_slices_breakPatternsOrdered_string code_slices_breakPatternsOrdered_string := ⟨_, _, Go.Proofs.Try.func31, rfl, by kernel_rfl, by kernel_rfl, by kernel_rfl, by kernel_rfl, by kernel_rfl⟩
theorem shows_slices_choosePivotOrdered_string : Shows Go.Proofs.Try.prog F_slices_choosePivotOrdered_string code_slices_choosePivotOrdered_string := ⟨_, _, Go.Proofs.Try.func32, rfl, by kernel_rfl, by kernel_rfl, by kernel_rfl, by kernel_rfl, by kernel_rfl⟩
theorem shows_slices_reverseRangeOrdered_string : Shows Go.Proofs.Try.prog F_slices_reverseRangeOrdered_string code_slices_reverseRangeOrdered_string := ⟨_, _, Go.Proofs.Try.func33, rfl, by kernel_rfl, by kernel_rfl, by kernel_rfl, by kernel_rfl, by kernel_rfl⟩
theorem shows_slices_partialInsertionSortOrdered_string : Shows Go.Proofs.Try.prog F_slices_partialInsertionSortOrdered_string code_slices_partialInsertionSortOrdered_string := ⟨_, _, Go.Proofs.Try.func34, rfl, by kernel_rfl, by kernel_rfl, by kernel_rfl, by kernel_rfl, by kernel_rfl⟩
theorem shows_cmp_Less_string : Shows Go.Proofs.Try.prog F_cmp_Less_string code_cmp_Less_string := ⟨_, _, Go.Proofs.Try.func35, rfl, by kernel_rfl, by kernel_rfl, by kernel_rfl, by kernel_rfl, by kernel_rfl⟩
theorem shows_slices_partitionEqualOrdered_string : Shows Go.Proofs.Try.prog F_slices_partitionEqualOrdered_string code_slices_partitionEqualOrdered_string := ⟨_, _, Go.Proofs.Try.func36, rfl, by kernel_rfl, by kernel_rfl, by kernel_rfl, by kernel_rfl, by kernel_rfl⟩
theorem shows_slices_partitionOrdered_string : Shows Go.Proofs.Try.prog F_slices_partitionOrdered_string code_slices_partitionOrdered_string := ⟨_, _, Go.Proofs.Try.func37, rfl, by kernel_rfl, by kernel_rfl, by kernel_rfl, by kernel_rfl, by kernel_rfl⟩
theorem shows_slices_siftDownOrdered_string : Shows Go.Proofs.Try.prog F_slices_siftDownOrdered_string code_slices_siftDownOrdered_string := ⟨_, _, Go.Proofs.Try.func40, rfl, by kernel_rfl, by kernel_rfl, by kernel_rfl, by kernel_rfl, by kernel_rfl⟩
theorem shows_slices_nextPowerOfTwo : Shows Go.Proofs.Try.prog F_slices_nextPowerOfTwo code_slices_nextPowerOfTwo := ⟨_, _, Go.Proofs.Try.func41, rfl, by kernel_rfl, by kernel_rfl, by kernel_rfl, by kernel_rfl, by kernel_rfl⟩
theorem shows_slices_xorshift_Next : Shows Go.Proofs.Try.prog F_slices_xorshift_Next code_slices_xorshift_Next := ⟨_, _, Go.Proofs.Try.func42, rfl, by kernel_rfl, by kernel_rfl, by kernel_rfl, by kernel_rfl, by kernel_rfl⟩
theorem shows_slices_medianAdjacentOrdered_string : Shows Go.Proofs.Try.prog F_slices_medianAdjacentOrdered_string code_slices_medianAdjacentOrdered_string := ⟨_, _, Go.Proofs.Try.func43, rfl, by kernel_rfl, by kernel_rfl, by kernel_rfl, by kernel_rfl, by kernel_rfl⟩
theorem shows_slices_medianOrdered_string : Shows Go.Proofs.Try.prog F_slices_medianOrdered_string code_slices_medianOrdered_string := ⟨_, _, Go.Proofs.Try.func44, rfl, by kernel_rfl, by kernel_rfl, by kernel_rfl, by kernel_rfl, by kernel_rfl⟩
theorem shows_cmp_isNaN_string : Shows Go.Proofs.Try.prog F_cmp_isNaN_string code_cmp_isNaN_string := ⟨_, _, Go.Proofs.Try.func45, rfl, by kernel_rfl, by kernel_rfl, by kernel_rfl, by kernel_rfl, by kernel_rfl⟩
theorem shows_slices_order2Ordered_string : Shows Go.Proofs.Try.prog F_slices_order2Ordered_string code_slices_order2Ordered_string := ⟨_, _, Go.Proofs.Try.func46, rfl, by kernel_rfl, by kernel_rfl, by kernel_rfl, by kernel_rfl, by kernel_rfl⟩
theorem rshows_delegate_All : RShows Go.Proofs.Try.prog F_delegate_All rcode_delegate_All := ⟨_, _, Go.Proofs.Try.func14, rfl, by kernel_rfl, by kernel_rfl, by kernel_rfl, by kernel_rfl, by kernel_rfl⟩
theorem codeL_ok : TableOK Go.Proofs.Try.prog codeL := ⟨shows_law35_DelegateTells,
  ⟨shows_law35_DelegateChains,
  ⟨shows_law35_DelegateMore,
  ⟨shows_law35_DelegateBound,
  ⟨shows_law35_alive,
  ⟨shows_law35_few,
  ⟨shows_law35_find,
  ⟨shows_law35_far,
  ⟨shows_delegate_Depth,
  ⟨shows_delegate_Holds,
  ⟨shows_plain_Rising,
  ⟨shows_plain_Texts,
  ⟨shows_delegate_Chain,
  ⟨shows_law35_by,
  ⟨shows_plain_In,
  ⟨shows_delegate_find,
  ⟨shows_delegate_reach_of,
  ⟨shows_slices_Sort_string_string,
  ⟨shows_delegate_Chain_1,
  ⟨shows_slices_IndexFunc_delegate_Grant_delegate_Grant,
  ⟨shows_slices_Reverse_string_string,
  ⟨shows_delegate_reach_by,
  ⟨shows_math_bits_Len,
  ⟨shows_slices_pdqsortOrdered_string,
  ⟨shows_delegate_Grant_live,
  ⟨shows_math_bits_Len32,
  ⟨shows_math_bits_Len64,
  ⟨shows_slices_insertionSortOrdered_string,
  ⟨shows_slices_heapSortOrdered_string,
  ⟨shows_slices_breakPatternsOrdered_string,
  ⟨shows_slices_choosePivotOrdered_string,
  ⟨shows_slices_reverseRangeOrdered_string,
  ⟨shows_slices_partialInsertionSortOrdered_string,
  ⟨shows_cmp_Less_string,
  ⟨shows_slices_partitionEqualOrdered_string,
  ⟨shows_slices_partitionOrdered_string,
  ⟨shows_slices_siftDownOrdered_string,
  ⟨shows_slices_nextPowerOfTwo,
  ⟨shows_slices_xorshift_Next,
  ⟨shows_slices_medianAdjacentOrdered_string,
  ⟨shows_slices_medianOrdered_string,
  ⟨shows_cmp_isNaN_string,
  ⟨shows_slices_order2Ordered_string,
  trivial⟩⟩⟩⟩⟩⟩⟩⟩⟩⟩⟩⟩⟩⟩⟩⟩⟩⟩⟩⟩⟩⟩⟩⟩⟩⟩⟩⟩⟩⟩⟩⟩⟩⟩⟩⟩⟩⟩⟩⟩⟩⟩⟩
theorem code_ok (f : Nat) (fn : AFunc) (h : code f = some fn) : Shows Go.Proofs.Try.prog f fn := tableAt_ok codeL_ok h
end Bz.S
