import Derived.Test.YtajhpbahjindkaaDoorWj
set_option linter.unusedVariables false
set_option linter.unusedSimpArgs false
namespace Go.Ev.Rag
open Go Go.Ev Go.Proofs
set_option maxRecDepth 1000000
set_option maxHeartbeats 0
set_option linter.unusedVariables false
noncomputable def fn8 : Func := match TF.fn 8 with | some fn => fn | none => default
noncomputable def cd8 : Code := match fn8.body with | some c => c | none => .skip
noncomputable def body8 : List Code := parts cd8
noncomputable def fr8_4 : Fr := [(6, AV.sc (Value.int IntKind.i64 0)), (5, AV.os 2 0 0 3 true false true), (38, AV.sc (Value.int IntKind.i64 0)),
  (37, AV.os 2 0 0 3 true false true), (34, AV.tuple [AV.os 2 0 0 3 true false true, AV.sc (Value.int IntKind.i64 0)]),
  (36, AV.tuple [AV.os 2 0 0 3 true false true, AV.sc (Value.int IntKind.i64 0)]),
  (35, AV.sl ET.str [{ data := #[] }, { data := #[97] }, { data := #[97, 98] }] false),
  (4, AV.sc (Value.int IntKind.i64 0)), (3, AV.os 1 0 0 2 true false true), (33, AV.sc (Value.int IntKind.i64 0)),
  (32, AV.os 1 0 0 2 true false true), (29, AV.tuple [AV.os 1 0 0 2 true false true, AV.sc (Value.int IntKind.i64 0)]),
  (31, AV.tuple [AV.os 1 0 0 2 true false true, AV.sc (Value.int IntKind.i64 0)]),
  (30, AV.sl ET.str [{ data := #[] }, { data := #[97] }, { data := #[97, 98] }] false),
  (2, AV.sc (Value.int IntKind.i64 0)), (1, AV.os 0 0 0 2 true false true), (28, AV.sc (Value.int IntKind.i64 0)),
  (27, AV.os 0 0 0 2 true false true), (24, AV.tuple [AV.os 0 0 0 2 true false true, AV.sc (Value.int IntKind.i64 0)]),
  (26, AV.tuple [AV.os 0 0 0 2 true false true, AV.sc (Value.int IntKind.i64 0)]),
  (25, AV.sl ET.str [{ data := #[97] }, { data := #[98] }] false), (0, AV.sc (Value.bool false))]
noncomputable def hp8_4 : Hp := [some
    {
      c :=
        [AV.run ET.str
            [{ data := (List.flatMap (fun n => (Utf8.encode n).data.toList) []).toArray },
              { data := (List.flatMap (fun n => (Utf8.encode n).data.toList) [Int.ofNat 97, Int.ofNat 98]).toArray }]],
      vr := false, ty := 9, fz := false, loose := false },
  some
    {
      c :=
        [AV.run ET.str
            [{ data := (List.flatMap (fun n => (Utf8.encode n).data.toList) []).toArray },
              { data := (List.flatMap (fun n => (Utf8.encode n).data.toList) [Int.ofNat 98]).toArray }]],
      vr := false, ty := 9, fz := false, loose := false },
  some
    {
      c :=
        [AV.run ET.str
            [{ data := (List.flatMap (fun n => (Utf8.encode n).data.toList) []).toArray },
              { data := (List.flatMap (fun n => (Utf8.encode n).data.toList) [Int.ofNat 97]).toArray },
              { data := (List.flatMap (fun n => (Utf8.encode n).data.toList) [Int.ofNat 98]).toArray }]],
      vr := false, ty := 9, fz := false, loose := false }]
noncomputable def fr8_6 : Fr := [(10, AV.sc (Value.int IntKind.i64 0)), (9, AV.os 4 0 0 0 true false true), (47, AV.sc (Value.int IntKind.i64 0)),
  (46, AV.os 4 0 0 0 true false true), (44, AV.tuple [AV.os 4 0 0 0 true false true, AV.sc (Value.int IntKind.i64 0)]),
  (45, AV.tuple [AV.os 4 0 0 0 true false true, AV.sc (Value.int IntKind.i64 0)]), (8, AV.sc (Value.int IntKind.i64 0)),
  (7, AV.os 3 0 0 3 true false true), (43, AV.sc (Value.int IntKind.i64 0)), (42, AV.os 3 0 0 3 true false true),
  (39, AV.tuple [AV.os 3 0 0 3 true false true, AV.sc (Value.int IntKind.i64 0)]),
  (41, AV.tuple [AV.os 3 0 0 3 true false true, AV.sc (Value.int IntKind.i64 0)]),
  (40, AV.sl ET.str [{ data := #[97] }, { data := #[98] }] false), (6, AV.sc (Value.int IntKind.i64 0)),
  (5, AV.os 2 0 0 3 true false true), (38, AV.sc (Value.int IntKind.i64 0)), (37, AV.os 2 0 0 3 true false true),
  (34, AV.tuple [AV.os 2 0 0 3 true false true, AV.sc (Value.int IntKind.i64 0)]),
  (36, AV.tuple [AV.os 2 0 0 3 true false true, AV.sc (Value.int IntKind.i64 0)]),
  (35, AV.sl ET.str [{ data := #[] }, { data := #[97] }, { data := #[97, 98] }] false),
  (4, AV.sc (Value.int IntKind.i64 0)), (3, AV.os 1 0 0 2 true false true), (33, AV.sc (Value.int IntKind.i64 0)),
  (32, AV.os 1 0 0 2 true false true), (29, AV.tuple [AV.os 1 0 0 2 true false true, AV.sc (Value.int IntKind.i64 0)]),
  (31, AV.tuple [AV.os 1 0 0 2 true false true, AV.sc (Value.int IntKind.i64 0)]),
  (30, AV.sl ET.str [{ data := #[] }, { data := #[97] }, { data := #[97, 98] }] false),
  (2, AV.sc (Value.int IntKind.i64 0)), (1, AV.os 0 0 0 2 true false true), (28, AV.sc (Value.int IntKind.i64 0)),
  (27, AV.os 0 0 0 2 true false true), (24, AV.tuple [AV.os 0 0 0 2 true false true, AV.sc (Value.int IntKind.i64 0)]),
  (26, AV.tuple [AV.os 0 0 0 2 true false true, AV.sc (Value.int IntKind.i64 0)]),
  (25, AV.sl ET.str [{ data := #[97] }, { data := #[98] }] false), (0, AV.sc (Value.bool false))]
noncomputable def hp8_6 : Hp := [some
    {
      c :=
        [AV.run ET.str
            [{ data := (List.flatMap (fun n => (Utf8.encode n).data.toList) []).toArray },
              { data := (List.flatMap (fun n => (Utf8.encode n).data.toList) [Int.ofNat 97, Int.ofNat 98]).toArray }]],
      vr := false, ty := 9, fz := false, loose := false },
  some
    {
      c :=
        [AV.run ET.str
            [{ data := (List.flatMap (fun n => (Utf8.encode n).data.toList) []).toArray },
              { data := (List.flatMap (fun n => (Utf8.encode n).data.toList) [Int.ofNat 98]).toArray }]],
      vr := false, ty := 9, fz := false, loose := false },
  some
    {
      c :=
        [AV.run ET.str
            [{ data := (List.flatMap (fun n => (Utf8.encode n).data.toList) []).toArray },
              { data := (List.flatMap (fun n => (Utf8.encode n).data.toList) [Int.ofNat 97]).toArray },
              { data := (List.flatMap (fun n => (Utf8.encode n).data.toList) [Int.ofNat 98]).toArray }]],
      vr := false, ty := 9, fz := false, loose := false },
  some
    {
      c :=
        [AV.run ET.str
            [{ data := (List.flatMap (fun n => (Utf8.encode n).data.toList) []).toArray },
              { data := (List.flatMap (fun n => (Utf8.encode n).data.toList) [Int.ofNat 97]).toArray },
              { data := (List.flatMap (fun n => (Utf8.encode n).data.toList) [Int.ofNat 98]).toArray }]],
      vr := false, ty := 9, fz := false, loose := false },
  some { c := [AV.run ET.str []], vr := false, ty := 0, fz := false, loose := false }]
noncomputable def fr8_7 : Fr := [(12, AV.sc (Value.int IntKind.i64 0)), (11, AV.os 5 0 0 1 true false true), (52, AV.sc (Value.int IntKind.i64 0)),
  (51, AV.os 5 0 0 1 true false true), (48, AV.tuple [AV.os 5 0 0 1 true false true, AV.sc (Value.int IntKind.i64 0)]),
  (50, AV.tuple [AV.os 5 0 0 1 true false true, AV.sc (Value.int IntKind.i64 0)]),
  (49, AV.sl ET.str [{ data := #[97] }, { data := #[98] }] false), (10, AV.sc (Value.int IntKind.i64 0)),
  (9, AV.os 4 0 0 0 true false true), (47, AV.sc (Value.int IntKind.i64 0)), (46, AV.os 4 0 0 0 true false true),
  (44, AV.tuple [AV.os 4 0 0 0 true false true, AV.sc (Value.int IntKind.i64 0)]),
  (45, AV.tuple [AV.os 4 0 0 0 true false true, AV.sc (Value.int IntKind.i64 0)]), (8, AV.sc (Value.int IntKind.i64 0)),
  (7, AV.os 3 0 0 3 true false true), (43, AV.sc (Value.int IntKind.i64 0)), (42, AV.os 3 0 0 3 true false true),
  (39, AV.tuple [AV.os 3 0 0 3 true false true, AV.sc (Value.int IntKind.i64 0)]),
  (41, AV.tuple [AV.os 3 0 0 3 true false true, AV.sc (Value.int IntKind.i64 0)]),
  (40, AV.sl ET.str [{ data := #[97] }, { data := #[98] }] false), (6, AV.sc (Value.int IntKind.i64 0)),
  (5, AV.os 2 0 0 3 true false true), (38, AV.sc (Value.int IntKind.i64 0)), (37, AV.os 2 0 0 3 true false true),
  (34, AV.tuple [AV.os 2 0 0 3 true false true, AV.sc (Value.int IntKind.i64 0)]),
  (36, AV.tuple [AV.os 2 0 0 3 true false true, AV.sc (Value.int IntKind.i64 0)]),
  (35, AV.sl ET.str [{ data := #[] }, { data := #[97] }, { data := #[97, 98] }] false),
  (4, AV.sc (Value.int IntKind.i64 0)), (3, AV.os 1 0 0 2 true false true), (33, AV.sc (Value.int IntKind.i64 0)),
  (32, AV.os 1 0 0 2 true false true), (29, AV.tuple [AV.os 1 0 0 2 true false true, AV.sc (Value.int IntKind.i64 0)]),
  (31, AV.tuple [AV.os 1 0 0 2 true false true, AV.sc (Value.int IntKind.i64 0)]),
  (30, AV.sl ET.str [{ data := #[] }, { data := #[97] }, { data := #[97, 98] }] false),
  (2, AV.sc (Value.int IntKind.i64 0)), (1, AV.os 0 0 0 2 true false true), (28, AV.sc (Value.int IntKind.i64 0)),
  (27, AV.os 0 0 0 2 true false true), (24, AV.tuple [AV.os 0 0 0 2 true false true, AV.sc (Value.int IntKind.i64 0)]),
  (26, AV.tuple [AV.os 0 0 0 2 true false true, AV.sc (Value.int IntKind.i64 0)]),
  (25, AV.sl ET.str [{ data := #[97] }, { data := #[98] }] false), (0, AV.sc (Value.bool false))]
noncomputable def hp8_7 : Hp := [some
    {
      c :=
        [AV.run ET.str
            [{ data := (List.flatMap (fun n => (Utf8.encode n).data.toList) []).toArray },
              { data := (List.flatMap (fun n => (Utf8.encode n).data.toList) [Int.ofNat 97, Int.ofNat 98]).toArray }]],
      vr := false, ty := 9, fz := false, loose := false },
  some
    {
      c :=
        [AV.run ET.str
            [{ data := (List.flatMap (fun n => (Utf8.encode n).data.toList) []).toArray },
              { data := (List.flatMap (fun n => (Utf8.encode n).data.toList) [Int.ofNat 98]).toArray }]],
      vr := false, ty := 9, fz := false, loose := false },
  some
    {
      c :=
        [AV.run ET.str
            [{ data := (List.flatMap (fun n => (Utf8.encode n).data.toList) []).toArray },
              { data := (List.flatMap (fun n => (Utf8.encode n).data.toList) [Int.ofNat 97]).toArray },
              { data := (List.flatMap (fun n => (Utf8.encode n).data.toList) [Int.ofNat 98]).toArray }]],
      vr := false, ty := 9, fz := false, loose := false },
  some
    {
      c :=
        [AV.run ET.str
            [{ data := (List.flatMap (fun n => (Utf8.encode n).data.toList) []).toArray },
              { data := (List.flatMap (fun n => (Utf8.encode n).data.toList) [Int.ofNat 97]).toArray },
              { data := (List.flatMap (fun n => (Utf8.encode n).data.toList) [Int.ofNat 98]).toArray }]],
      vr := false, ty := 9, fz := false, loose := false },
  some { c := [AV.run ET.str []], vr := false, ty := 0, fz := false, loose := false },
  some
    { c := [AV.run ET.str [{ data := (List.flatMap (fun n => (Utf8.encode n).data.toList) []).toArray }]], vr := false,
      ty := 9, fz := false, loose := false }]
noncomputable def fr8_8 : Fr := [(14, AV.sc (Value.int IntKind.i64 0)), (13, AV.os 6 0 0 4 true false true), (57, AV.sc (Value.int IntKind.i64 0)),
  (56, AV.os 6 0 0 4 true false true), (53, AV.tuple [AV.os 6 0 0 4 true false true, AV.sc (Value.int IntKind.i64 0)]),
  (55, AV.tuple [AV.os 6 0 0 4 true false true, AV.sc (Value.int IntKind.i64 0)]),
  (54,
    AV.sl ET.str [{ data := #[97, 98] }, { data := #[97, 99] }, { data := #[98, 99] }, { data := #[97, 98, 99] }]
      false),
  (12, AV.sc (Value.int IntKind.i64 0)), (11, AV.os 5 0 0 1 true false true), (52, AV.sc (Value.int IntKind.i64 0)),
  (51, AV.os 5 0 0 1 true false true), (48, AV.tuple [AV.os 5 0 0 1 true false true, AV.sc (Value.int IntKind.i64 0)]),
  (50, AV.tuple [AV.os 5 0 0 1 true false true, AV.sc (Value.int IntKind.i64 0)]),
  (49, AV.sl ET.str [{ data := #[97] }, { data := #[98] }] false), (10, AV.sc (Value.int IntKind.i64 0)),
  (9, AV.os 4 0 0 0 true false true), (47, AV.sc (Value.int IntKind.i64 0)), (46, AV.os 4 0 0 0 true false true),
  (44, AV.tuple [AV.os 4 0 0 0 true false true, AV.sc (Value.int IntKind.i64 0)]),
  (45, AV.tuple [AV.os 4 0 0 0 true false true, AV.sc (Value.int IntKind.i64 0)]), (8, AV.sc (Value.int IntKind.i64 0)),
  (7, AV.os 3 0 0 3 true false true), (43, AV.sc (Value.int IntKind.i64 0)), (42, AV.os 3 0 0 3 true false true),
  (39, AV.tuple [AV.os 3 0 0 3 true false true, AV.sc (Value.int IntKind.i64 0)]),
  (41, AV.tuple [AV.os 3 0 0 3 true false true, AV.sc (Value.int IntKind.i64 0)]),
  (40, AV.sl ET.str [{ data := #[97] }, { data := #[98] }] false), (6, AV.sc (Value.int IntKind.i64 0)),
  (5, AV.os 2 0 0 3 true false true), (38, AV.sc (Value.int IntKind.i64 0)), (37, AV.os 2 0 0 3 true false true),
  (34, AV.tuple [AV.os 2 0 0 3 true false true, AV.sc (Value.int IntKind.i64 0)]),
  (36, AV.tuple [AV.os 2 0 0 3 true false true, AV.sc (Value.int IntKind.i64 0)]),
  (35, AV.sl ET.str [{ data := #[] }, { data := #[97] }, { data := #[97, 98] }] false),
  (4, AV.sc (Value.int IntKind.i64 0)), (3, AV.os 1 0 0 2 true false true), (33, AV.sc (Value.int IntKind.i64 0)),
  (32, AV.os 1 0 0 2 true false true), (29, AV.tuple [AV.os 1 0 0 2 true false true, AV.sc (Value.int IntKind.i64 0)]),
  (31, AV.tuple [AV.os 1 0 0 2 true false true, AV.sc (Value.int IntKind.i64 0)]),
  (30, AV.sl ET.str [{ data := #[] }, { data := #[97] }, { data := #[97, 98] }] false),
  (2, AV.sc (Value.int IntKind.i64 0)), (1, AV.os 0 0 0 2 true false true), (28, AV.sc (Value.int IntKind.i64 0)),
  (27, AV.os 0 0 0 2 true false true), (24, AV.tuple [AV.os 0 0 0 2 true false true, AV.sc (Value.int IntKind.i64 0)]),
  (26, AV.tuple [AV.os 0 0 0 2 true false true, AV.sc (Value.int IntKind.i64 0)]),
  (25, AV.sl ET.str [{ data := #[97] }, { data := #[98] }] false), (0, AV.sc (Value.bool false))]
noncomputable def hp8_8 : Hp := [some
    {
      c :=
        [AV.run ET.str
            [{ data := (List.flatMap (fun n => (Utf8.encode n).data.toList) []).toArray },
              { data := (List.flatMap (fun n => (Utf8.encode n).data.toList) [Int.ofNat 97, Int.ofNat 98]).toArray }]],
      vr := false, ty := 9, fz := false, loose := false },
  some
    {
      c :=
        [AV.run ET.str
            [{ data := (List.flatMap (fun n => (Utf8.encode n).data.toList) []).toArray },
              { data := (List.flatMap (fun n => (Utf8.encode n).data.toList) [Int.ofNat 98]).toArray }]],
      vr := false, ty := 9, fz := false, loose := false },
  some
    {
      c :=
        [AV.run ET.str
            [{ data := (List.flatMap (fun n => (Utf8.encode n).data.toList) []).toArray },
              { data := (List.flatMap (fun n => (Utf8.encode n).data.toList) [Int.ofNat 97]).toArray },
              { data := (List.flatMap (fun n => (Utf8.encode n).data.toList) [Int.ofNat 98]).toArray }]],
      vr := false, ty := 9, fz := false, loose := false },
  some
    {
      c :=
        [AV.run ET.str
            [{ data := (List.flatMap (fun n => (Utf8.encode n).data.toList) []).toArray },
              { data := (List.flatMap (fun n => (Utf8.encode n).data.toList) [Int.ofNat 97]).toArray },
              { data := (List.flatMap (fun n => (Utf8.encode n).data.toList) [Int.ofNat 98]).toArray }]],
      vr := false, ty := 9, fz := false, loose := false },
  some { c := [AV.run ET.str []], vr := false, ty := 0, fz := false, loose := false },
  some
    { c := [AV.run ET.str [{ data := (List.flatMap (fun n => (Utf8.encode n).data.toList) []).toArray }]], vr := false,
      ty := 9, fz := false, loose := false },
  some
    {
      c :=
        [AV.run ET.str
            [{ data := (List.flatMap (fun n => (Utf8.encode n).data.toList) []).toArray },
              { data := (List.flatMap (fun n => (Utf8.encode n).data.toList) [Int.ofNat 97]).toArray },
              { data := (List.flatMap (fun n => (Utf8.encode n).data.toList) [Int.ofNat 98]).toArray },
              { data := (List.flatMap (fun n => (Utf8.encode n).data.toList) [Int.ofNat 99]).toArray }]],
      vr := false, ty := 9, fz := false, loose := false }]
noncomputable def fr8_10 : Fr := [(129, AV.sc (Value.bool false)), (129, AV.sc (Value.bool false)), (123, AV.sc (Value.bool false)),
  (128, AV.sc (Value.bool false)), (123, AV.sc (Value.bool false)), (127, AV.sc (Value.bool true)),
  (123, AV.sc (Value.bool false)),
  (126, AV.sl ET.str [{ data := #[] }, { data := #[97] }, { data := #[98] }, { data := #[99] }] false),
  (123, AV.sc (Value.bool false)),
  (125, AV.sl ET.str [{ data := #[] }, { data := #[97] }, { data := #[98] }, { data := #[99] }] true),
  (123, AV.sc (Value.bool false)), (124, AV.os 6 0 0 4 true false true), (123, AV.sc (Value.bool false)),
  (123, AV.sc (Value.bool false)), (122, AV.sc (Value.bool false)), (116, AV.sc (Value.bool false)),
  (121, AV.sc (Value.bool false)), (116, AV.sc (Value.bool false)), (120, AV.sc (Value.bool true)),
  (116, AV.sc (Value.bool false)), (119, AV.sl ET.str [{ data := #[] }] false), (116, AV.sc (Value.bool false)),
  (118, AV.sl ET.str [{ data := #[] }] true), (116, AV.sc (Value.bool false)), (117, AV.os 5 0 0 1 true false true),
  (116, AV.sc (Value.bool false)), (116, AV.sc (Value.bool false)), (115, AV.sc (Value.bool false)),
  (111, AV.sc (Value.bool false)), (114, AV.sc (Value.bool false)), (111, AV.sc (Value.bool false)),
  (113, AV.sc (Value.int IntKind.i64 0)), (111, AV.sc (Value.bool false)), (112, AV.os 4 0 0 0 true false true),
  (111, AV.sc (Value.bool false)), (111, AV.sc (Value.bool false)), (110, AV.sc (Value.bool false)),
  (105, AV.sc (Value.bool false)), (109, AV.sc (Value.bool false)), (105, AV.sc (Value.bool false)),
  (108, AV.sc (Value.bool true)), (105, AV.sc (Value.bool false)), (107, AV.os 2 0 0 3 true false true),
  (105, AV.sc (Value.bool false)), (106, AV.os 3 0 0 3 true false true), (105, AV.sc (Value.bool false)),
  (105, AV.sc (Value.bool false)), (104, AV.sc (Value.bool false)), (98, AV.sc (Value.bool false)),
  (103, AV.sc (Value.bool false)), (98, AV.sc (Value.bool false)), (102, AV.sc (Value.bool true)),
  (98, AV.sc (Value.bool false)), (101, AV.sl ET.str [{ data := #[] }, { data := #[97] }, { data := #[98] }] false),
  (98, AV.sc (Value.bool false)), (100, AV.sl ET.str [{ data := #[] }, { data := #[97] }, { data := #[98] }] true),
  (98, AV.sc (Value.bool false)), (99, AV.os 2 0 0 3 true false true), (98, AV.sc (Value.bool false)),
  (98, AV.sc (Value.bool false)), (97, AV.sc (Value.bool false)), (91, AV.sc (Value.bool false)),
  (96, AV.sc (Value.bool false)), (91, AV.sc (Value.bool false)), (95, AV.sc (Value.bool true)),
  (91, AV.sc (Value.bool false)), (94, AV.sl ET.str [{ data := #[] }, { data := #[98] }] false),
  (91, AV.sc (Value.bool false)), (93, AV.sl ET.str [{ data := #[] }, { data := #[98] }] true),
  (91, AV.sc (Value.bool false)), (92, AV.os 1 0 0 2 true false true), (91, AV.sc (Value.bool false)),
  (91, AV.sc (Value.bool false)), (90, AV.sc (Value.bool false)), (84, AV.sc (Value.bool false)),
  (89, AV.sc (Value.bool false)), (84, AV.sc (Value.bool false)), (88, AV.sc (Value.bool true)),
  (84, AV.sc (Value.bool false)), (87, AV.sl ET.str [{ data := #[] }, { data := #[97, 98] }] false),
  (84, AV.sc (Value.bool false)), (86, AV.sl ET.str [{ data := #[] }, { data := #[97, 98] }] true),
  (84, AV.sc (Value.bool false)), (85, AV.os 0 0 0 2 true false true), (84, AV.sc (Value.bool false)),
  (84, AV.sc (Value.bool false)), (83, AV.sc (Value.bool false)), (80, AV.sc (Value.bool false)),
  (82, AV.sc (Value.bool false)), (80, AV.sc (Value.bool false)), (81, AV.sc (Value.int IntKind.i64 0)),
  (80, AV.sc (Value.bool false)), (80, AV.sc (Value.bool false)), (79, AV.sc (Value.bool false)),
  (76, AV.sc (Value.bool false)), (78, AV.sc (Value.bool false)), (76, AV.sc (Value.bool false)),
  (77, AV.sc (Value.int IntKind.i64 0)), (76, AV.sc (Value.bool false)), (76, AV.sc (Value.bool false)),
  (75, AV.sc (Value.bool false)), (72, AV.sc (Value.bool false)), (74, AV.sc (Value.bool false)),
  (72, AV.sc (Value.bool false)), (73, AV.sc (Value.int IntKind.i64 0)), (72, AV.sc (Value.bool false)),
  (72, AV.sc (Value.bool false)), (71, AV.sc (Value.bool false)), (68, AV.sc (Value.bool false)),
  (70, AV.sc (Value.bool false)), (68, AV.sc (Value.bool false)), (69, AV.sc (Value.int IntKind.i64 0)),
  (68, AV.sc (Value.bool false)), (68, AV.sc (Value.bool false)), (67, AV.sc (Value.bool false)),
  (64, AV.sc (Value.bool false)), (66, AV.sc (Value.bool false)), (64, AV.sc (Value.bool false)),
  (65, AV.sc (Value.int IntKind.i64 0)), (64, AV.sc (Value.bool false)), (64, AV.sc (Value.bool false)),
  (63, AV.sc (Value.bool false)), (60, AV.sc (Value.bool false)), (62, AV.sc (Value.bool false)),
  (60, AV.sc (Value.bool false)), (61, AV.sc (Value.int IntKind.i64 0)), (60, AV.sc (Value.bool false)),
  (60, AV.sc (Value.bool false)), (59, AV.sc (Value.bool false)), (58, AV.sc (Value.int IntKind.i64 0)),
  (14, AV.sc (Value.int IntKind.i64 0)), (13, AV.os 6 0 0 4 true false true), (57, AV.sc (Value.int IntKind.i64 0)),
  (56, AV.os 6 0 0 4 true false true), (53, AV.tuple [AV.os 6 0 0 4 true false true, AV.sc (Value.int IntKind.i64 0)]),
  (55, AV.tuple [AV.os 6 0 0 4 true false true, AV.sc (Value.int IntKind.i64 0)]),
  (54,
    AV.sl ET.str [{ data := #[97, 98] }, { data := #[97, 99] }, { data := #[98, 99] }, { data := #[97, 98, 99] }]
      false),
  (12, AV.sc (Value.int IntKind.i64 0)), (11, AV.os 5 0 0 1 true false true), (52, AV.sc (Value.int IntKind.i64 0)),
  (51, AV.os 5 0 0 1 true false true), (48, AV.tuple [AV.os 5 0 0 1 true false true, AV.sc (Value.int IntKind.i64 0)]),
  (50, AV.tuple [AV.os 5 0 0 1 true false true, AV.sc (Value.int IntKind.i64 0)]),
  (49, AV.sl ET.str [{ data := #[97] }, { data := #[98] }] false), (10, AV.sc (Value.int IntKind.i64 0)),
  (9, AV.os 4 0 0 0 true false true), (47, AV.sc (Value.int IntKind.i64 0)), (46, AV.os 4 0 0 0 true false true),
  (44, AV.tuple [AV.os 4 0 0 0 true false true, AV.sc (Value.int IntKind.i64 0)]),
  (45, AV.tuple [AV.os 4 0 0 0 true false true, AV.sc (Value.int IntKind.i64 0)]), (8, AV.sc (Value.int IntKind.i64 0)),
  (7, AV.os 3 0 0 3 true false true), (43, AV.sc (Value.int IntKind.i64 0)), (42, AV.os 3 0 0 3 true false true),
  (39, AV.tuple [AV.os 3 0 0 3 true false true, AV.sc (Value.int IntKind.i64 0)]),
  (41, AV.tuple [AV.os 3 0 0 3 true false true, AV.sc (Value.int IntKind.i64 0)]),
  (40, AV.sl ET.str [{ data := #[97] }, { data := #[98] }] false), (6, AV.sc (Value.int IntKind.i64 0)),
  (5, AV.os 2 0 0 3 true false true), (38, AV.sc (Value.int IntKind.i64 0)), (37, AV.os 2 0 0 3 true false true),
  (34, AV.tuple [AV.os 2 0 0 3 true false true, AV.sc (Value.int IntKind.i64 0)]),
  (36, AV.tuple [AV.os 2 0 0 3 true false true, AV.sc (Value.int IntKind.i64 0)]),
  (35, AV.sl ET.str [{ data := #[] }, { data := #[97] }, { data := #[97, 98] }] false),
  (4, AV.sc (Value.int IntKind.i64 0)), (3, AV.os 1 0 0 2 true false true), (33, AV.sc (Value.int IntKind.i64 0)),
  (32, AV.os 1 0 0 2 true false true), (29, AV.tuple [AV.os 1 0 0 2 true false true, AV.sc (Value.int IntKind.i64 0)]),
  (31, AV.tuple [AV.os 1 0 0 2 true false true, AV.sc (Value.int IntKind.i64 0)]),
  (30, AV.sl ET.str [{ data := #[] }, { data := #[97] }, { data := #[97, 98] }] false),
  (2, AV.sc (Value.int IntKind.i64 0)), (1, AV.os 0 0 0 2 true false true), (28, AV.sc (Value.int IntKind.i64 0)),
  (27, AV.os 0 0 0 2 true false true), (24, AV.tuple [AV.os 0 0 0 2 true false true, AV.sc (Value.int IntKind.i64 0)]),
  (26, AV.tuple [AV.os 0 0 0 2 true false true, AV.sc (Value.int IntKind.i64 0)]),
  (25, AV.sl ET.str [{ data := #[97] }, { data := #[98] }] false), (0, AV.sc (Value.bool false))]
noncomputable def hp8_10 : Hp := [some
    {
      c :=
        [AV.run ET.str
            [{ data := (List.flatMap (fun n => (Utf8.encode n).data.toList) []).toArray },
              { data := (List.flatMap (fun n => (Utf8.encode n).data.toList) [Int.ofNat 97, Int.ofNat 98]).toArray }]],
      vr := false, ty := 9, fz := false, loose := false },
  some
    {
      c :=
        [AV.run ET.str
            [{ data := (List.flatMap (fun n => (Utf8.encode n).data.toList) []).toArray },
              { data := (List.flatMap (fun n => (Utf8.encode n).data.toList) [Int.ofNat 98]).toArray }]],
      vr := false, ty := 9, fz := false, loose := false },
  some
    {
      c :=
        [AV.run ET.str
            [{ data := (List.flatMap (fun n => (Utf8.encode n).data.toList) []).toArray },
              { data := (List.flatMap (fun n => (Utf8.encode n).data.toList) [Int.ofNat 97]).toArray },
              { data := (List.flatMap (fun n => (Utf8.encode n).data.toList) [Int.ofNat 98]).toArray }]],
      vr := false, ty := 9, fz := false, loose := false },
  some
    {
      c :=
        [AV.run ET.str
            [{ data := (List.flatMap (fun n => (Utf8.encode n).data.toList) []).toArray },
              { data := (List.flatMap (fun n => (Utf8.encode n).data.toList) [Int.ofNat 97]).toArray },
              { data := (List.flatMap (fun n => (Utf8.encode n).data.toList) [Int.ofNat 98]).toArray }]],
      vr := false, ty := 9, fz := false, loose := false },
  some { c := [AV.run ET.str []], vr := false, ty := 0, fz := false, loose := false },
  some
    { c := [AV.run ET.str [{ data := (List.flatMap (fun n => (Utf8.encode n).data.toList) []).toArray }]], vr := false,
      ty := 9, fz := false, loose := false },
  some
    {
      c :=
        [AV.run ET.str
            [{ data := (List.flatMap (fun n => (Utf8.encode n).data.toList) []).toArray },
              { data := (List.flatMap (fun n => (Utf8.encode n).data.toList) [Int.ofNat 97]).toArray },
              { data := (List.flatMap (fun n => (Utf8.encode n).data.toList) [Int.ofNat 98]).toArray },
              { data := (List.flatMap (fun n => (Utf8.encode n).data.toList) [Int.ofNat 99]).toArray }]],
      vr := false, ty := 9, fz := false, loose := false }]
noncomputable def fr8_13 : Fr := [(6, AV.sc (Value.int IntKind.i64 0)), (17, AV.os 7 0 0 3 true false true), (144, AV.sc (Value.int IntKind.i64 0)),
  (143, AV.os 7 0 0 3 true false true),
  (140, AV.tuple [AV.os 7 0 0 3 true false true, AV.sc (Value.int IntKind.i64 0)]),
  (142, AV.tuple [AV.os 7 0 0 3 true false true, AV.sc (Value.int IntKind.i64 0)]),
  (141, AV.sl ET.str [{ data := #[] }, { data := #[97] }, { data := #[97, 98] }] false),
  (4, AV.sc (Value.int IntKind.i64 0)),
  (16, AV.sc (Value.string { data := (List.flatMap (fun n => (Utf8.encode n).data.toList) []).toArray })),
  (139, AV.sc (Value.int IntKind.i64 0)),
  (138, AV.sc (Value.string { data := (List.flatMap (fun n => (Utf8.encode n).data.toList) []).toArray })),
  (135,
    AV.tuple
      [AV.sc (Value.string { data := (List.flatMap (fun n => (Utf8.encode n).data.toList) []).toArray }),
        AV.sc (Value.int IntKind.i64 0)]),
  (137,
    AV.tuple
      [AV.sc (Value.string { data := (List.flatMap (fun n => (Utf8.encode n).data.toList) []).toArray }),
        AV.sc (Value.int IntKind.i64 0)]),
  (136,
    AV.sl ET.str [{ data := #[97, 98] }, { data := #[97, 99] }, { data := #[98, 99] }, { data := #[97, 98, 99] }]
      false),
  (2, AV.sc (Value.int IntKind.i64 0)), (15, AV.sc (Value.int IntKind.i64 1)), (134, AV.sc (Value.int IntKind.i64 0)),
  (133, AV.sc (Value.int IntKind.i64 1)),
  (130, AV.tuple [AV.sc (Value.int IntKind.i64 1), AV.sc (Value.int IntKind.i64 0)]),
  (132, AV.tuple [AV.sc (Value.int IntKind.i64 1), AV.sc (Value.int IntKind.i64 0)]),
  (131,
    AV.sl ET.str [{ data := #[97, 98] }, { data := #[97, 99] }, { data := #[98, 99] }, { data := #[97, 98, 99] }]
      false),
  (129, AV.sc (Value.bool false)), (129, AV.sc (Value.bool false)), (123, AV.sc (Value.bool false)),
  (128, AV.sc (Value.bool false)), (123, AV.sc (Value.bool false)), (127, AV.sc (Value.bool true)),
  (123, AV.sc (Value.bool false)),
  (126, AV.sl ET.str [{ data := #[] }, { data := #[97] }, { data := #[98] }, { data := #[99] }] false),
  (123, AV.sc (Value.bool false)),
  (125, AV.sl ET.str [{ data := #[] }, { data := #[97] }, { data := #[98] }, { data := #[99] }] true),
  (123, AV.sc (Value.bool false)), (124, AV.os 6 0 0 4 true false true), (123, AV.sc (Value.bool false)),
  (123, AV.sc (Value.bool false)), (122, AV.sc (Value.bool false)), (116, AV.sc (Value.bool false)),
  (121, AV.sc (Value.bool false)), (116, AV.sc (Value.bool false)), (120, AV.sc (Value.bool true)),
  (116, AV.sc (Value.bool false)), (119, AV.sl ET.str [{ data := #[] }] false), (116, AV.sc (Value.bool false)),
  (118, AV.sl ET.str [{ data := #[] }] true), (116, AV.sc (Value.bool false)), (117, AV.os 5 0 0 1 true false true),
  (116, AV.sc (Value.bool false)), (116, AV.sc (Value.bool false)), (115, AV.sc (Value.bool false)),
  (111, AV.sc (Value.bool false)), (114, AV.sc (Value.bool false)), (111, AV.sc (Value.bool false)),
  (113, AV.sc (Value.int IntKind.i64 0)), (111, AV.sc (Value.bool false)), (112, AV.os 4 0 0 0 true false true),
  (111, AV.sc (Value.bool false)), (111, AV.sc (Value.bool false)), (110, AV.sc (Value.bool false)),
  (105, AV.sc (Value.bool false)), (109, AV.sc (Value.bool false)), (105, AV.sc (Value.bool false)),
  (108, AV.sc (Value.bool true)), (105, AV.sc (Value.bool false)), (107, AV.os 2 0 0 3 true false true),
  (105, AV.sc (Value.bool false)), (106, AV.os 3 0 0 3 true false true), (105, AV.sc (Value.bool false)),
  (105, AV.sc (Value.bool false)), (104, AV.sc (Value.bool false)), (98, AV.sc (Value.bool false)),
  (103, AV.sc (Value.bool false)), (98, AV.sc (Value.bool false)), (102, AV.sc (Value.bool true)),
  (98, AV.sc (Value.bool false)), (101, AV.sl ET.str [{ data := #[] }, { data := #[97] }, { data := #[98] }] false),
  (98, AV.sc (Value.bool false)), (100, AV.sl ET.str [{ data := #[] }, { data := #[97] }, { data := #[98] }] true),
  (98, AV.sc (Value.bool false)), (99, AV.os 2 0 0 3 true false true), (98, AV.sc (Value.bool false)),
  (98, AV.sc (Value.bool false)), (97, AV.sc (Value.bool false)), (91, AV.sc (Value.bool false)),
  (96, AV.sc (Value.bool false)), (91, AV.sc (Value.bool false)), (95, AV.sc (Value.bool true)),
  (91, AV.sc (Value.bool false)), (94, AV.sl ET.str [{ data := #[] }, { data := #[98] }] false),
  (91, AV.sc (Value.bool false)), (93, AV.sl ET.str [{ data := #[] }, { data := #[98] }] true),
  (91, AV.sc (Value.bool false)), (92, AV.os 1 0 0 2 true false true), (91, AV.sc (Value.bool false)),
  (91, AV.sc (Value.bool false)), (90, AV.sc (Value.bool false)), (84, AV.sc (Value.bool false)),
  (89, AV.sc (Value.bool false)), (84, AV.sc (Value.bool false)), (88, AV.sc (Value.bool true)),
  (84, AV.sc (Value.bool false)), (87, AV.sl ET.str [{ data := #[] }, { data := #[97, 98] }] false),
  (84, AV.sc (Value.bool false)), (86, AV.sl ET.str [{ data := #[] }, { data := #[97, 98] }] true),
  (84, AV.sc (Value.bool false)), (85, AV.os 0 0 0 2 true false true), (84, AV.sc (Value.bool false)),
  (84, AV.sc (Value.bool false)), (83, AV.sc (Value.bool false)), (80, AV.sc (Value.bool false)),
  (82, AV.sc (Value.bool false)), (80, AV.sc (Value.bool false)), (81, AV.sc (Value.int IntKind.i64 0)),
  (80, AV.sc (Value.bool false)), (80, AV.sc (Value.bool false)), (79, AV.sc (Value.bool false)),
  (76, AV.sc (Value.bool false)), (78, AV.sc (Value.bool false)), (76, AV.sc (Value.bool false)),
  (77, AV.sc (Value.int IntKind.i64 0)), (76, AV.sc (Value.bool false)), (76, AV.sc (Value.bool false)),
  (75, AV.sc (Value.bool false)), (72, AV.sc (Value.bool false)), (74, AV.sc (Value.bool false)),
  (72, AV.sc (Value.bool false)), (73, AV.sc (Value.int IntKind.i64 0)), (72, AV.sc (Value.bool false)),
  (72, AV.sc (Value.bool false)), (71, AV.sc (Value.bool false)), (68, AV.sc (Value.bool false)),
  (70, AV.sc (Value.bool false)), (68, AV.sc (Value.bool false)), (69, AV.sc (Value.int IntKind.i64 0)),
  (68, AV.sc (Value.bool false)), (68, AV.sc (Value.bool false)), (67, AV.sc (Value.bool false)),
  (64, AV.sc (Value.bool false)), (66, AV.sc (Value.bool false)), (64, AV.sc (Value.bool false)),
  (65, AV.sc (Value.int IntKind.i64 0)), (64, AV.sc (Value.bool false)), (64, AV.sc (Value.bool false)),
  (63, AV.sc (Value.bool false)), (60, AV.sc (Value.bool false)), (62, AV.sc (Value.bool false)),
  (60, AV.sc (Value.bool false)), (61, AV.sc (Value.int IntKind.i64 0)), (60, AV.sc (Value.bool false)),
  (60, AV.sc (Value.bool false)), (59, AV.sc (Value.bool false)), (58, AV.sc (Value.int IntKind.i64 0)),
  (14, AV.sc (Value.int IntKind.i64 0)), (13, AV.os 6 0 0 4 true false true), (57, AV.sc (Value.int IntKind.i64 0)),
  (56, AV.os 6 0 0 4 true false true), (53, AV.tuple [AV.os 6 0 0 4 true false true, AV.sc (Value.int IntKind.i64 0)]),
  (55, AV.tuple [AV.os 6 0 0 4 true false true, AV.sc (Value.int IntKind.i64 0)]),
  (54,
    AV.sl ET.str [{ data := #[97, 98] }, { data := #[97, 99] }, { data := #[98, 99] }, { data := #[97, 98, 99] }]
      false),
  (12, AV.sc (Value.int IntKind.i64 0)), (11, AV.os 5 0 0 1 true false true), (52, AV.sc (Value.int IntKind.i64 0)),
  (51, AV.os 5 0 0 1 true false true), (48, AV.tuple [AV.os 5 0 0 1 true false true, AV.sc (Value.int IntKind.i64 0)]),
  (50, AV.tuple [AV.os 5 0 0 1 true false true, AV.sc (Value.int IntKind.i64 0)]),
  (49, AV.sl ET.str [{ data := #[97] }, { data := #[98] }] false), (10, AV.sc (Value.int IntKind.i64 0)),
  (9, AV.os 4 0 0 0 true false true), (47, AV.sc (Value.int IntKind.i64 0)), (46, AV.os 4 0 0 0 true false true),
  (44, AV.tuple [AV.os 4 0 0 0 true false true, AV.sc (Value.int IntKind.i64 0)]),
  (45, AV.tuple [AV.os 4 0 0 0 true false true, AV.sc (Value.int IntKind.i64 0)]), (8, AV.sc (Value.int IntKind.i64 0)),
  (7, AV.os 3 0 0 3 true false true), (43, AV.sc (Value.int IntKind.i64 0)), (42, AV.os 3 0 0 3 true false true),
  (39, AV.tuple [AV.os 3 0 0 3 true false true, AV.sc (Value.int IntKind.i64 0)]),
  (41, AV.tuple [AV.os 3 0 0 3 true false true, AV.sc (Value.int IntKind.i64 0)]),
  (40, AV.sl ET.str [{ data := #[97] }, { data := #[98] }] false), (6, AV.sc (Value.int IntKind.i64 0)),
  (5, AV.os 2 0 0 3 true false true), (38, AV.sc (Value.int IntKind.i64 0)), (37, AV.os 2 0 0 3 true false true),
  (34, AV.tuple [AV.os 2 0 0 3 true false true, AV.sc (Value.int IntKind.i64 0)]),
  (36, AV.tuple [AV.os 2 0 0 3 true false true, AV.sc (Value.int IntKind.i64 0)]),
  (35, AV.sl ET.str [{ data := #[] }, { data := #[97] }, { data := #[97, 98] }] false),
  (4, AV.sc (Value.int IntKind.i64 0)), (3, AV.os 1 0 0 2 true false true), (33, AV.sc (Value.int IntKind.i64 0)),
  (32, AV.os 1 0 0 2 true false true), (29, AV.tuple [AV.os 1 0 0 2 true false true, AV.sc (Value.int IntKind.i64 0)]),
  (31, AV.tuple [AV.os 1 0 0 2 true false true, AV.sc (Value.int IntKind.i64 0)]),
  (30, AV.sl ET.str [{ data := #[] }, { data := #[97] }, { data := #[97, 98] }] false),
  (2, AV.sc (Value.int IntKind.i64 0)), (1, AV.os 0 0 0 2 true false true), (28, AV.sc (Value.int IntKind.i64 0)),
  (27, AV.os 0 0 0 2 true false true), (24, AV.tuple [AV.os 0 0 0 2 true false true, AV.sc (Value.int IntKind.i64 0)]),
  (26, AV.tuple [AV.os 0 0 0 2 true false true, AV.sc (Value.int IntKind.i64 0)]),
  (25, AV.sl ET.str [{ data := #[97] }, { data := #[98] }] false), (0, AV.sc (Value.bool false))]
noncomputable def hp8_13 : Hp := [some
    {
      c :=
        [AV.run ET.str
            [{ data := (List.flatMap (fun n => (Utf8.encode n).data.toList) []).toArray },
              { data := (List.flatMap (fun n => (Utf8.encode n).data.toList) [Int.ofNat 97, Int.ofNat 98]).toArray }]],
      vr := false, ty := 9, fz := false, loose := false },
  some
    {
      c :=
        [AV.run ET.str
            [{ data := (List.flatMap (fun n => (Utf8.encode n).data.toList) []).toArray },
              { data := (List.flatMap (fun n => (Utf8.encode n).data.toList) [Int.ofNat 98]).toArray }]],
      vr := false, ty := 9, fz := false, loose := false },
  some
    {
      c :=
        [AV.run ET.str
            [{ data := (List.flatMap (fun n => (Utf8.encode n).data.toList) []).toArray },
              { data := (List.flatMap (fun n => (Utf8.encode n).data.toList) [Int.ofNat 97]).toArray },
              { data := (List.flatMap (fun n => (Utf8.encode n).data.toList) [Int.ofNat 98]).toArray }]],
      vr := false, ty := 9, fz := false, loose := false },
  some
    {
      c :=
        [AV.run ET.str
            [{ data := (List.flatMap (fun n => (Utf8.encode n).data.toList) []).toArray },
              { data := (List.flatMap (fun n => (Utf8.encode n).data.toList) [Int.ofNat 97]).toArray },
              { data := (List.flatMap (fun n => (Utf8.encode n).data.toList) [Int.ofNat 98]).toArray }]],
      vr := false, ty := 9, fz := false, loose := false },
  some { c := [AV.run ET.str []], vr := false, ty := 0, fz := false, loose := false },
  some
    { c := [AV.run ET.str [{ data := (List.flatMap (fun n => (Utf8.encode n).data.toList) []).toArray }]], vr := false,
      ty := 9, fz := false, loose := false },
  some
    {
      c :=
        [AV.run ET.str
            [{ data := (List.flatMap (fun n => (Utf8.encode n).data.toList) []).toArray },
              { data := (List.flatMap (fun n => (Utf8.encode n).data.toList) [Int.ofNat 97]).toArray },
              { data := (List.flatMap (fun n => (Utf8.encode n).data.toList) [Int.ofNat 98]).toArray },
              { data := (List.flatMap (fun n => (Utf8.encode n).data.toList) [Int.ofNat 99]).toArray }]],
      vr := false, ty := 9, fz := false, loose := false },
  some
    {
      c :=
        [AV.run ET.str
            [{ data := (List.flatMap (fun n => (Utf8.encode n).data.toList) []).toArray },
              { data := (List.flatMap (fun n => (Utf8.encode n).data.toList) [Int.ofNat 97]).toArray },
              { data := (List.flatMap (fun n => (Utf8.encode n).data.toList) [Int.ofNat 97, Int.ofNat 98]).toArray }]],
      vr := false, ty := 9, fz := false, loose := false }]
noncomputable def fr8_15 : Fr := [(10, AV.sc (Value.int IntKind.i64 0)), (19, AV.os 9 0 0 2 true false true), (154, AV.sc (Value.int IntKind.i64 0)),
  (153, AV.os 9 0 0 2 true false true),
  (150, AV.tuple [AV.os 9 0 0 2 true false true, AV.sc (Value.int IntKind.i64 0)]),
  (152, AV.tuple [AV.os 9 0 0 2 true false true, AV.sc (Value.int IntKind.i64 0)]),
  (151, AV.sl ET.str [{ data := #[97] }, { data := #[98] }] false), (8, AV.sc (Value.int IntKind.i64 0)),
  (18, AV.os 8 0 0 3 true false true), (149, AV.sc (Value.int IntKind.i64 0)), (148, AV.os 8 0 0 3 true false true),
  (145, AV.tuple [AV.os 8 0 0 3 true false true, AV.sc (Value.int IntKind.i64 0)]),
  (147, AV.tuple [AV.os 8 0 0 3 true false true, AV.sc (Value.int IntKind.i64 0)]),
  (146, AV.sl ET.str [{ data := #[] }, { data := #[97] }, { data := #[97, 98] }] false),
  (6, AV.sc (Value.int IntKind.i64 0)), (17, AV.os 7 0 0 3 true false true), (144, AV.sc (Value.int IntKind.i64 0)),
  (143, AV.os 7 0 0 3 true false true),
  (140, AV.tuple [AV.os 7 0 0 3 true false true, AV.sc (Value.int IntKind.i64 0)]),
  (142, AV.tuple [AV.os 7 0 0 3 true false true, AV.sc (Value.int IntKind.i64 0)]),
  (141, AV.sl ET.str [{ data := #[] }, { data := #[97] }, { data := #[97, 98] }] false),
  (4, AV.sc (Value.int IntKind.i64 0)),
  (16, AV.sc (Value.string { data := (List.flatMap (fun n => (Utf8.encode n).data.toList) []).toArray })),
  (139, AV.sc (Value.int IntKind.i64 0)),
  (138, AV.sc (Value.string { data := (List.flatMap (fun n => (Utf8.encode n).data.toList) []).toArray })),
  (135,
    AV.tuple
      [AV.sc (Value.string { data := (List.flatMap (fun n => (Utf8.encode n).data.toList) []).toArray }),
        AV.sc (Value.int IntKind.i64 0)]),
  (137,
    AV.tuple
      [AV.sc (Value.string { data := (List.flatMap (fun n => (Utf8.encode n).data.toList) []).toArray }),
        AV.sc (Value.int IntKind.i64 0)]),
  (136,
    AV.sl ET.str [{ data := #[97, 98] }, { data := #[97, 99] }, { data := #[98, 99] }, { data := #[97, 98, 99] }]
      false),
  (2, AV.sc (Value.int IntKind.i64 0)), (15, AV.sc (Value.int IntKind.i64 1)), (134, AV.sc (Value.int IntKind.i64 0)),
  (133, AV.sc (Value.int IntKind.i64 1)),
  (130, AV.tuple [AV.sc (Value.int IntKind.i64 1), AV.sc (Value.int IntKind.i64 0)]),
  (132, AV.tuple [AV.sc (Value.int IntKind.i64 1), AV.sc (Value.int IntKind.i64 0)]),
  (131,
    AV.sl ET.str [{ data := #[97, 98] }, { data := #[97, 99] }, { data := #[98, 99] }, { data := #[97, 98, 99] }]
      false),
  (129, AV.sc (Value.bool false)), (129, AV.sc (Value.bool false)), (123, AV.sc (Value.bool false)),
  (128, AV.sc (Value.bool false)), (123, AV.sc (Value.bool false)), (127, AV.sc (Value.bool true)),
  (123, AV.sc (Value.bool false)),
  (126, AV.sl ET.str [{ data := #[] }, { data := #[97] }, { data := #[98] }, { data := #[99] }] false),
  (123, AV.sc (Value.bool false)),
  (125, AV.sl ET.str [{ data := #[] }, { data := #[97] }, { data := #[98] }, { data := #[99] }] true),
  (123, AV.sc (Value.bool false)), (124, AV.os 6 0 0 4 true false true), (123, AV.sc (Value.bool false)),
  (123, AV.sc (Value.bool false)), (122, AV.sc (Value.bool false)), (116, AV.sc (Value.bool false)),
  (121, AV.sc (Value.bool false)), (116, AV.sc (Value.bool false)), (120, AV.sc (Value.bool true)),
  (116, AV.sc (Value.bool false)), (119, AV.sl ET.str [{ data := #[] }] false), (116, AV.sc (Value.bool false)),
  (118, AV.sl ET.str [{ data := #[] }] true), (116, AV.sc (Value.bool false)), (117, AV.os 5 0 0 1 true false true),
  (116, AV.sc (Value.bool false)), (116, AV.sc (Value.bool false)), (115, AV.sc (Value.bool false)),
  (111, AV.sc (Value.bool false)), (114, AV.sc (Value.bool false)), (111, AV.sc (Value.bool false)),
  (113, AV.sc (Value.int IntKind.i64 0)), (111, AV.sc (Value.bool false)), (112, AV.os 4 0 0 0 true false true),
  (111, AV.sc (Value.bool false)), (111, AV.sc (Value.bool false)), (110, AV.sc (Value.bool false)),
  (105, AV.sc (Value.bool false)), (109, AV.sc (Value.bool false)), (105, AV.sc (Value.bool false)),
  (108, AV.sc (Value.bool true)), (105, AV.sc (Value.bool false)), (107, AV.os 2 0 0 3 true false true),
  (105, AV.sc (Value.bool false)), (106, AV.os 3 0 0 3 true false true), (105, AV.sc (Value.bool false)),
  (105, AV.sc (Value.bool false)), (104, AV.sc (Value.bool false)), (98, AV.sc (Value.bool false)),
  (103, AV.sc (Value.bool false)), (98, AV.sc (Value.bool false)), (102, AV.sc (Value.bool true)),
  (98, AV.sc (Value.bool false)), (101, AV.sl ET.str [{ data := #[] }, { data := #[97] }, { data := #[98] }] false),
  (98, AV.sc (Value.bool false)), (100, AV.sl ET.str [{ data := #[] }, { data := #[97] }, { data := #[98] }] true),
  (98, AV.sc (Value.bool false)), (99, AV.os 2 0 0 3 true false true), (98, AV.sc (Value.bool false)),
  (98, AV.sc (Value.bool false)), (97, AV.sc (Value.bool false)), (91, AV.sc (Value.bool false)),
  (96, AV.sc (Value.bool false)), (91, AV.sc (Value.bool false)), (95, AV.sc (Value.bool true)),
  (91, AV.sc (Value.bool false)), (94, AV.sl ET.str [{ data := #[] }, { data := #[98] }] false),
  (91, AV.sc (Value.bool false)), (93, AV.sl ET.str [{ data := #[] }, { data := #[98] }] true),
  (91, AV.sc (Value.bool false)), (92, AV.os 1 0 0 2 true false true), (91, AV.sc (Value.bool false)),
  (91, AV.sc (Value.bool false)), (90, AV.sc (Value.bool false)), (84, AV.sc (Value.bool false)),
  (89, AV.sc (Value.bool false)), (84, AV.sc (Value.bool false)), (88, AV.sc (Value.bool true)),
  (84, AV.sc (Value.bool false)), (87, AV.sl ET.str [{ data := #[] }, { data := #[97, 98] }] false),
  (84, AV.sc (Value.bool false)), (86, AV.sl ET.str [{ data := #[] }, { data := #[97, 98] }] true),
  (84, AV.sc (Value.bool false)), (85, AV.os 0 0 0 2 true false true), (84, AV.sc (Value.bool false)),
  (84, AV.sc (Value.bool false)), (83, AV.sc (Value.bool false)), (80, AV.sc (Value.bool false)),
  (82, AV.sc (Value.bool false)), (80, AV.sc (Value.bool false)), (81, AV.sc (Value.int IntKind.i64 0)),
  (80, AV.sc (Value.bool false)), (80, AV.sc (Value.bool false)), (79, AV.sc (Value.bool false)),
  (76, AV.sc (Value.bool false)), (78, AV.sc (Value.bool false)), (76, AV.sc (Value.bool false)),
  (77, AV.sc (Value.int IntKind.i64 0)), (76, AV.sc (Value.bool false)), (76, AV.sc (Value.bool false)),
  (75, AV.sc (Value.bool false)), (72, AV.sc (Value.bool false)), (74, AV.sc (Value.bool false)),
  (72, AV.sc (Value.bool false)), (73, AV.sc (Value.int IntKind.i64 0)), (72, AV.sc (Value.bool false)),
  (72, AV.sc (Value.bool false)), (71, AV.sc (Value.bool false)), (68, AV.sc (Value.bool false)),
  (70, AV.sc (Value.bool false)), (68, AV.sc (Value.bool false)), (69, AV.sc (Value.int IntKind.i64 0)),
  (68, AV.sc (Value.bool false)), (68, AV.sc (Value.bool false)), (67, AV.sc (Value.bool false)),
  (64, AV.sc (Value.bool false)), (66, AV.sc (Value.bool false)), (64, AV.sc (Value.bool false)),
  (65, AV.sc (Value.int IntKind.i64 0)), (64, AV.sc (Value.bool false)), (64, AV.sc (Value.bool false)),
  (63, AV.sc (Value.bool false)), (60, AV.sc (Value.bool false)), (62, AV.sc (Value.bool false)),
  (60, AV.sc (Value.bool false)), (61, AV.sc (Value.int IntKind.i64 0)), (60, AV.sc (Value.bool false)),
  (60, AV.sc (Value.bool false)), (59, AV.sc (Value.bool false)), (58, AV.sc (Value.int IntKind.i64 0)),
  (14, AV.sc (Value.int IntKind.i64 0)), (13, AV.os 6 0 0 4 true false true), (57, AV.sc (Value.int IntKind.i64 0)),
  (56, AV.os 6 0 0 4 true false true), (53, AV.tuple [AV.os 6 0 0 4 true false true, AV.sc (Value.int IntKind.i64 0)]),
  (55, AV.tuple [AV.os 6 0 0 4 true false true, AV.sc (Value.int IntKind.i64 0)]),
  (54,
    AV.sl ET.str [{ data := #[97, 98] }, { data := #[97, 99] }, { data := #[98, 99] }, { data := #[97, 98, 99] }]
      false),
  (12, AV.sc (Value.int IntKind.i64 0)), (11, AV.os 5 0 0 1 true false true), (52, AV.sc (Value.int IntKind.i64 0)),
  (51, AV.os 5 0 0 1 true false true), (48, AV.tuple [AV.os 5 0 0 1 true false true, AV.sc (Value.int IntKind.i64 0)]),
  (50, AV.tuple [AV.os 5 0 0 1 true false true, AV.sc (Value.int IntKind.i64 0)]),
  (49, AV.sl ET.str [{ data := #[97] }, { data := #[98] }] false), (10, AV.sc (Value.int IntKind.i64 0)),
  (9, AV.os 4 0 0 0 true false true), (47, AV.sc (Value.int IntKind.i64 0)), (46, AV.os 4 0 0 0 true false true),
  (44, AV.tuple [AV.os 4 0 0 0 true false true, AV.sc (Value.int IntKind.i64 0)]),
  (45, AV.tuple [AV.os 4 0 0 0 true false true, AV.sc (Value.int IntKind.i64 0)]), (8, AV.sc (Value.int IntKind.i64 0)),
  (7, AV.os 3 0 0 3 true false true), (43, AV.sc (Value.int IntKind.i64 0)), (42, AV.os 3 0 0 3 true false true),
  (39, AV.tuple [AV.os 3 0 0 3 true false true, AV.sc (Value.int IntKind.i64 0)]),
  (41, AV.tuple [AV.os 3 0 0 3 true false true, AV.sc (Value.int IntKind.i64 0)]),
  (40, AV.sl ET.str [{ data := #[97] }, { data := #[98] }] false), (6, AV.sc (Value.int IntKind.i64 0)),
  (5, AV.os 2 0 0 3 true false true), (38, AV.sc (Value.int IntKind.i64 0)), (37, AV.os 2 0 0 3 true false true),
  (34, AV.tuple [AV.os 2 0 0 3 true false true, AV.sc (Value.int IntKind.i64 0)]),
  (36, AV.tuple [AV.os 2 0 0 3 true false true, AV.sc (Value.int IntKind.i64 0)]),
  (35, AV.sl ET.str [{ data := #[] }, { data := #[97] }, { data := #[97, 98] }] false),
  (4, AV.sc (Value.int IntKind.i64 0)), (3, AV.os 1 0 0 2 true false true), (33, AV.sc (Value.int IntKind.i64 0)),
  (32, AV.os 1 0 0 2 true false true), (29, AV.tuple [AV.os 1 0 0 2 true false true, AV.sc (Value.int IntKind.i64 0)]),
  (31, AV.tuple [AV.os 1 0 0 2 true false true, AV.sc (Value.int IntKind.i64 0)]),
  (30, AV.sl ET.str [{ data := #[] }, { data := #[97] }, { data := #[97, 98] }] false),
  (2, AV.sc (Value.int IntKind.i64 0)), (1, AV.os 0 0 0 2 true false true), (28, AV.sc (Value.int IntKind.i64 0)),
  (27, AV.os 0 0 0 2 true false true), (24, AV.tuple [AV.os 0 0 0 2 true false true, AV.sc (Value.int IntKind.i64 0)]),
  (26, AV.tuple [AV.os 0 0 0 2 true false true, AV.sc (Value.int IntKind.i64 0)]),
  (25, AV.sl ET.str [{ data := #[97] }, { data := #[98] }] false), (0, AV.sc (Value.bool false))]
noncomputable def hp8_15 : Hp := [some
    {
      c :=
        [AV.run ET.str
            [{ data := (List.flatMap (fun n => (Utf8.encode n).data.toList) []).toArray },
              { data := (List.flatMap (fun n => (Utf8.encode n).data.toList) [Int.ofNat 97, Int.ofNat 98]).toArray }]],
      vr := false, ty := 9, fz := false, loose := false },
  some
    {
      c :=
        [AV.run ET.str
            [{ data := (List.flatMap (fun n => (Utf8.encode n).data.toList) []).toArray },
              { data := (List.flatMap (fun n => (Utf8.encode n).data.toList) [Int.ofNat 98]).toArray }]],
      vr := false, ty := 9, fz := false, loose := false },
  some
    {
      c :=
        [AV.run ET.str
            [{ data := (List.flatMap (fun n => (Utf8.encode n).data.toList) []).toArray },
              { data := (List.flatMap (fun n => (Utf8.encode n).data.toList) [Int.ofNat 97]).toArray },
              { data := (List.flatMap (fun n => (Utf8.encode n).data.toList) [Int.ofNat 98]).toArray }]],
      vr := false, ty := 9, fz := false, loose := false },
  some
    {
      c :=
        [AV.run ET.str
            [{ data := (List.flatMap (fun n => (Utf8.encode n).data.toList) []).toArray },
              { data := (List.flatMap (fun n => (Utf8.encode n).data.toList) [Int.ofNat 97]).toArray },
              { data := (List.flatMap (fun n => (Utf8.encode n).data.toList) [Int.ofNat 98]).toArray }]],
      vr := false, ty := 9, fz := false, loose := false },
  some { c := [AV.run ET.str []], vr := false, ty := 0, fz := false, loose := false },
  some
    { c := [AV.run ET.str [{ data := (List.flatMap (fun n => (Utf8.encode n).data.toList) []).toArray }]], vr := false,
      ty := 9, fz := false, loose := false },
  some
    {
      c :=
        [AV.run ET.str
            [{ data := (List.flatMap (fun n => (Utf8.encode n).data.toList) []).toArray },
              { data := (List.flatMap (fun n => (Utf8.encode n).data.toList) [Int.ofNat 97]).toArray },
              { data := (List.flatMap (fun n => (Utf8.encode n).data.toList) [Int.ofNat 98]).toArray },
              { data := (List.flatMap (fun n => (Utf8.encode n).data.toList) [Int.ofNat 99]).toArray }]],
      vr := false, ty := 9, fz := false, loose := false },
  some
    {
      c :=
        [AV.run ET.str
            [{ data := (List.flatMap (fun n => (Utf8.encode n).data.toList) []).toArray },
              { data := (List.flatMap (fun n => (Utf8.encode n).data.toList) [Int.ofNat 97]).toArray },
              { data := (List.flatMap (fun n => (Utf8.encode n).data.toList) [Int.ofNat 97, Int.ofNat 98]).toArray }]],
      vr := false, ty := 9, fz := false, loose := false },
  some
    {
      c :=
        [AV.run ET.str
            [{ data := (List.flatMap (fun n => (Utf8.encode n).data.toList) []).toArray },
              { data := (List.flatMap (fun n => (Utf8.encode n).data.toList) [Int.ofNat 97]).toArray },
              { data := (List.flatMap (fun n => (Utf8.encode n).data.toList) [Int.ofNat 98]).toArray }]],
      vr := false, ty := 9, fz := false, loose := false },
  some
    {
      c :=
        [AV.run ET.str
            [{ data := (List.flatMap (fun n => (Utf8.encode n).data.toList) []).toArray },
              { data := (List.flatMap (fun n => (Utf8.encode n).data.toList) [Int.ofNat 98]).toArray }]],
      vr := false, ty := 9, fz := false, loose := false }]
noncomputable def fr8_18 : Fr := [(23, AV.sc (Value.int IntKind.i64 2)), (22, AV.sc (Value.int IntKind.i64 0)), (166, AV.sc (Value.int IntKind.i64 2)),
  (165, AV.sc (Value.int IntKind.i64 0)),
  (163, AV.tuple [AV.sc (Value.int IntKind.i64 0), AV.sc (Value.int IntKind.i64 2)]),
  (164, AV.tuple [AV.sc (Value.int IntKind.i64 0), AV.sc (Value.int IntKind.i64 2)]),
  (14, AV.sc (Value.int IntKind.i64 0)), (21, AV.sc (Value.int IntKind.i64 4)), (162, AV.sc (Value.int IntKind.i64 0)),
  (161, AV.sc (Value.int IntKind.i64 4)),
  (159, AV.tuple [AV.sc (Value.int IntKind.i64 4), AV.sc (Value.int IntKind.i64 0)]),
  (160, AV.tuple [AV.sc (Value.int IntKind.i64 4), AV.sc (Value.int IntKind.i64 0)]),
  (12, AV.sc (Value.int IntKind.i64 0)), (20, AV.sc (Value.int IntKind.i64 4)), (158, AV.sc (Value.int IntKind.i64 0)),
  (157, AV.sc (Value.int IntKind.i64 4)),
  (155, AV.tuple [AV.sc (Value.int IntKind.i64 4), AV.sc (Value.int IntKind.i64 0)]),
  (156, AV.tuple [AV.sc (Value.int IntKind.i64 4), AV.sc (Value.int IntKind.i64 0)]),
  (10, AV.sc (Value.int IntKind.i64 0)), (19, AV.os 9 0 0 2 true false true), (154, AV.sc (Value.int IntKind.i64 0)),
  (153, AV.os 9 0 0 2 true false true),
  (150, AV.tuple [AV.os 9 0 0 2 true false true, AV.sc (Value.int IntKind.i64 0)]),
  (152, AV.tuple [AV.os 9 0 0 2 true false true, AV.sc (Value.int IntKind.i64 0)]),
  (151, AV.sl ET.str [{ data := #[97] }, { data := #[98] }] false), (8, AV.sc (Value.int IntKind.i64 0)),
  (18, AV.os 8 0 0 3 true false true), (149, AV.sc (Value.int IntKind.i64 0)), (148, AV.os 8 0 0 3 true false true),
  (145, AV.tuple [AV.os 8 0 0 3 true false true, AV.sc (Value.int IntKind.i64 0)]),
  (147, AV.tuple [AV.os 8 0 0 3 true false true, AV.sc (Value.int IntKind.i64 0)]),
  (146, AV.sl ET.str [{ data := #[] }, { data := #[97] }, { data := #[97, 98] }] false),
  (6, AV.sc (Value.int IntKind.i64 0)), (17, AV.os 7 0 0 3 true false true), (144, AV.sc (Value.int IntKind.i64 0)),
  (143, AV.os 7 0 0 3 true false true),
  (140, AV.tuple [AV.os 7 0 0 3 true false true, AV.sc (Value.int IntKind.i64 0)]),
  (142, AV.tuple [AV.os 7 0 0 3 true false true, AV.sc (Value.int IntKind.i64 0)]),
  (141, AV.sl ET.str [{ data := #[] }, { data := #[97] }, { data := #[97, 98] }] false),
  (4, AV.sc (Value.int IntKind.i64 0)),
  (16, AV.sc (Value.string { data := (List.flatMap (fun n => (Utf8.encode n).data.toList) []).toArray })),
  (139, AV.sc (Value.int IntKind.i64 0)),
  (138, AV.sc (Value.string { data := (List.flatMap (fun n => (Utf8.encode n).data.toList) []).toArray })),
  (135,
    AV.tuple
      [AV.sc (Value.string { data := (List.flatMap (fun n => (Utf8.encode n).data.toList) []).toArray }),
        AV.sc (Value.int IntKind.i64 0)]),
  (137,
    AV.tuple
      [AV.sc (Value.string { data := (List.flatMap (fun n => (Utf8.encode n).data.toList) []).toArray }),
        AV.sc (Value.int IntKind.i64 0)]),
  (136,
    AV.sl ET.str [{ data := #[97, 98] }, { data := #[97, 99] }, { data := #[98, 99] }, { data := #[97, 98, 99] }]
      false),
  (2, AV.sc (Value.int IntKind.i64 0)), (15, AV.sc (Value.int IntKind.i64 1)), (134, AV.sc (Value.int IntKind.i64 0)),
  (133, AV.sc (Value.int IntKind.i64 1)),
  (130, AV.tuple [AV.sc (Value.int IntKind.i64 1), AV.sc (Value.int IntKind.i64 0)]),
  (132, AV.tuple [AV.sc (Value.int IntKind.i64 1), AV.sc (Value.int IntKind.i64 0)]),
  (131,
    AV.sl ET.str [{ data := #[97, 98] }, { data := #[97, 99] }, { data := #[98, 99] }, { data := #[97, 98, 99] }]
      false),
  (129, AV.sc (Value.bool false)), (129, AV.sc (Value.bool false)), (123, AV.sc (Value.bool false)),
  (128, AV.sc (Value.bool false)), (123, AV.sc (Value.bool false)), (127, AV.sc (Value.bool true)),
  (123, AV.sc (Value.bool false)),
  (126, AV.sl ET.str [{ data := #[] }, { data := #[97] }, { data := #[98] }, { data := #[99] }] false),
  (123, AV.sc (Value.bool false)),
  (125, AV.sl ET.str [{ data := #[] }, { data := #[97] }, { data := #[98] }, { data := #[99] }] true),
  (123, AV.sc (Value.bool false)), (124, AV.os 6 0 0 4 true false true), (123, AV.sc (Value.bool false)),
  (123, AV.sc (Value.bool false)), (122, AV.sc (Value.bool false)), (116, AV.sc (Value.bool false)),
  (121, AV.sc (Value.bool false)), (116, AV.sc (Value.bool false)), (120, AV.sc (Value.bool true)),
  (116, AV.sc (Value.bool false)), (119, AV.sl ET.str [{ data := #[] }] false), (116, AV.sc (Value.bool false)),
  (118, AV.sl ET.str [{ data := #[] }] true), (116, AV.sc (Value.bool false)), (117, AV.os 5 0 0 1 true false true),
  (116, AV.sc (Value.bool false)), (116, AV.sc (Value.bool false)), (115, AV.sc (Value.bool false)),
  (111, AV.sc (Value.bool false)), (114, AV.sc (Value.bool false)), (111, AV.sc (Value.bool false)),
  (113, AV.sc (Value.int IntKind.i64 0)), (111, AV.sc (Value.bool false)), (112, AV.os 4 0 0 0 true false true),
  (111, AV.sc (Value.bool false)), (111, AV.sc (Value.bool false)), (110, AV.sc (Value.bool false)),
  (105, AV.sc (Value.bool false)), (109, AV.sc (Value.bool false)), (105, AV.sc (Value.bool false)),
  (108, AV.sc (Value.bool true)), (105, AV.sc (Value.bool false)), (107, AV.os 2 0 0 3 true false true),
  (105, AV.sc (Value.bool false)), (106, AV.os 3 0 0 3 true false true), (105, AV.sc (Value.bool false)),
  (105, AV.sc (Value.bool false)), (104, AV.sc (Value.bool false)), (98, AV.sc (Value.bool false)),
  (103, AV.sc (Value.bool false)), (98, AV.sc (Value.bool false)), (102, AV.sc (Value.bool true)),
  (98, AV.sc (Value.bool false)), (101, AV.sl ET.str [{ data := #[] }, { data := #[97] }, { data := #[98] }] false),
  (98, AV.sc (Value.bool false)), (100, AV.sl ET.str [{ data := #[] }, { data := #[97] }, { data := #[98] }] true),
  (98, AV.sc (Value.bool false)), (99, AV.os 2 0 0 3 true false true), (98, AV.sc (Value.bool false)),
  (98, AV.sc (Value.bool false)), (97, AV.sc (Value.bool false)), (91, AV.sc (Value.bool false)),
  (96, AV.sc (Value.bool false)), (91, AV.sc (Value.bool false)), (95, AV.sc (Value.bool true)),
  (91, AV.sc (Value.bool false)), (94, AV.sl ET.str [{ data := #[] }, { data := #[98] }] false),
  (91, AV.sc (Value.bool false)), (93, AV.sl ET.str [{ data := #[] }, { data := #[98] }] true),
  (91, AV.sc (Value.bool false)), (92, AV.os 1 0 0 2 true false true), (91, AV.sc (Value.bool false)),
  (91, AV.sc (Value.bool false)), (90, AV.sc (Value.bool false)), (84, AV.sc (Value.bool false)),
  (89, AV.sc (Value.bool false)), (84, AV.sc (Value.bool false)), (88, AV.sc (Value.bool true)),
  (84, AV.sc (Value.bool false)), (87, AV.sl ET.str [{ data := #[] }, { data := #[97, 98] }] false),
  (84, AV.sc (Value.bool false)), (86, AV.sl ET.str [{ data := #[] }, { data := #[97, 98] }] true),
  (84, AV.sc (Value.bool false)), (85, AV.os 0 0 0 2 true false true), (84, AV.sc (Value.bool false)),
  (84, AV.sc (Value.bool false)), (83, AV.sc (Value.bool false)), (80, AV.sc (Value.bool false)),
  (82, AV.sc (Value.bool false)), (80, AV.sc (Value.bool false)), (81, AV.sc (Value.int IntKind.i64 0)),
  (80, AV.sc (Value.bool false)), (80, AV.sc (Value.bool false)), (79, AV.sc (Value.bool false)),
  (76, AV.sc (Value.bool false)), (78, AV.sc (Value.bool false)), (76, AV.sc (Value.bool false)),
  (77, AV.sc (Value.int IntKind.i64 0)), (76, AV.sc (Value.bool false)), (76, AV.sc (Value.bool false)),
  (75, AV.sc (Value.bool false)), (72, AV.sc (Value.bool false)), (74, AV.sc (Value.bool false)),
  (72, AV.sc (Value.bool false)), (73, AV.sc (Value.int IntKind.i64 0)), (72, AV.sc (Value.bool false)),
  (72, AV.sc (Value.bool false)), (71, AV.sc (Value.bool false)), (68, AV.sc (Value.bool false)),
  (70, AV.sc (Value.bool false)), (68, AV.sc (Value.bool false)), (69, AV.sc (Value.int IntKind.i64 0)),
  (68, AV.sc (Value.bool false)), (68, AV.sc (Value.bool false)), (67, AV.sc (Value.bool false)),
  (64, AV.sc (Value.bool false)), (66, AV.sc (Value.bool false)), (64, AV.sc (Value.bool false)),
  (65, AV.sc (Value.int IntKind.i64 0)), (64, AV.sc (Value.bool false)), (64, AV.sc (Value.bool false)),
  (63, AV.sc (Value.bool false)), (60, AV.sc (Value.bool false)), (62, AV.sc (Value.bool false)),
  (60, AV.sc (Value.bool false)), (61, AV.sc (Value.int IntKind.i64 0)), (60, AV.sc (Value.bool false)),
  (60, AV.sc (Value.bool false)), (59, AV.sc (Value.bool false)), (58, AV.sc (Value.int IntKind.i64 0)),
  (14, AV.sc (Value.int IntKind.i64 0)), (13, AV.os 6 0 0 4 true false true), (57, AV.sc (Value.int IntKind.i64 0)),
  (56, AV.os 6 0 0 4 true false true), (53, AV.tuple [AV.os 6 0 0 4 true false true, AV.sc (Value.int IntKind.i64 0)]),
  (55, AV.tuple [AV.os 6 0 0 4 true false true, AV.sc (Value.int IntKind.i64 0)]),
  (54,
    AV.sl ET.str [{ data := #[97, 98] }, { data := #[97, 99] }, { data := #[98, 99] }, { data := #[97, 98, 99] }]
      false),
  (12, AV.sc (Value.int IntKind.i64 0)), (11, AV.os 5 0 0 1 true false true), (52, AV.sc (Value.int IntKind.i64 0)),
  (51, AV.os 5 0 0 1 true false true), (48, AV.tuple [AV.os 5 0 0 1 true false true, AV.sc (Value.int IntKind.i64 0)]),
  (50, AV.tuple [AV.os 5 0 0 1 true false true, AV.sc (Value.int IntKind.i64 0)]),
  (49, AV.sl ET.str [{ data := #[97] }, { data := #[98] }] false), (10, AV.sc (Value.int IntKind.i64 0)),
  (9, AV.os 4 0 0 0 true false true), (47, AV.sc (Value.int IntKind.i64 0)), (46, AV.os 4 0 0 0 true false true),
  (44, AV.tuple [AV.os 4 0 0 0 true false true, AV.sc (Value.int IntKind.i64 0)]),
  (45, AV.tuple [AV.os 4 0 0 0 true false true, AV.sc (Value.int IntKind.i64 0)]), (8, AV.sc (Value.int IntKind.i64 0)),
  (7, AV.os 3 0 0 3 true false true), (43, AV.sc (Value.int IntKind.i64 0)), (42, AV.os 3 0 0 3 true false true),
  (39, AV.tuple [AV.os 3 0 0 3 true false true, AV.sc (Value.int IntKind.i64 0)]),
  (41, AV.tuple [AV.os 3 0 0 3 true false true, AV.sc (Value.int IntKind.i64 0)]),
  (40, AV.sl ET.str [{ data := #[97] }, { data := #[98] }] false), (6, AV.sc (Value.int IntKind.i64 0)),
  (5, AV.os 2 0 0 3 true false true), (38, AV.sc (Value.int IntKind.i64 0)), (37, AV.os 2 0 0 3 true false true),
  (34, AV.tuple [AV.os 2 0 0 3 true false true, AV.sc (Value.int IntKind.i64 0)]),
  (36, AV.tuple [AV.os 2 0 0 3 true false true, AV.sc (Value.int IntKind.i64 0)]),
  (35, AV.sl ET.str [{ data := #[] }, { data := #[97] }, { data := #[97, 98] }] false),
  (4, AV.sc (Value.int IntKind.i64 0)), (3, AV.os 1 0 0 2 true false true), (33, AV.sc (Value.int IntKind.i64 0)),
  (32, AV.os 1 0 0 2 true false true), (29, AV.tuple [AV.os 1 0 0 2 true false true, AV.sc (Value.int IntKind.i64 0)]),
  (31, AV.tuple [AV.os 1 0 0 2 true false true, AV.sc (Value.int IntKind.i64 0)]),
  (30, AV.sl ET.str [{ data := #[] }, { data := #[97] }, { data := #[97, 98] }] false),
  (2, AV.sc (Value.int IntKind.i64 0)), (1, AV.os 0 0 0 2 true false true), (28, AV.sc (Value.int IntKind.i64 0)),
  (27, AV.os 0 0 0 2 true false true), (24, AV.tuple [AV.os 0 0 0 2 true false true, AV.sc (Value.int IntKind.i64 0)]),
  (26, AV.tuple [AV.os 0 0 0 2 true false true, AV.sc (Value.int IntKind.i64 0)]),
  (25, AV.sl ET.str [{ data := #[97] }, { data := #[98] }] false), (0, AV.sc (Value.bool false))]
noncomputable def hp8_18 : Hp := [some
    {
      c :=
        [AV.run ET.str
            [{ data := (List.flatMap (fun n => (Utf8.encode n).data.toList) []).toArray },
              { data := (List.flatMap (fun n => (Utf8.encode n).data.toList) [Int.ofNat 97, Int.ofNat 98]).toArray }]],
      vr := false, ty := 9, fz := false, loose := false },
  some
    {
      c :=
        [AV.run ET.str
            [{ data := (List.flatMap (fun n => (Utf8.encode n).data.toList) []).toArray },
              { data := (List.flatMap (fun n => (Utf8.encode n).data.toList) [Int.ofNat 98]).toArray }]],
      vr := false, ty := 9, fz := false, loose := false },
  some
    {
      c :=
        [AV.run ET.str
            [{ data := (List.flatMap (fun n => (Utf8.encode n).data.toList) []).toArray },
              { data := (List.flatMap (fun n => (Utf8.encode n).data.toList) [Int.ofNat 97]).toArray },
              { data := (List.flatMap (fun n => (Utf8.encode n).data.toList) [Int.ofNat 98]).toArray }]],
      vr := false, ty := 9, fz := false, loose := false },
  some
    {
      c :=
        [AV.run ET.str
            [{ data := (List.flatMap (fun n => (Utf8.encode n).data.toList) []).toArray },
              { data := (List.flatMap (fun n => (Utf8.encode n).data.toList) [Int.ofNat 97]).toArray },
              { data := (List.flatMap (fun n => (Utf8.encode n).data.toList) [Int.ofNat 98]).toArray }]],
      vr := false, ty := 9, fz := false, loose := false },
  some { c := [AV.run ET.str []], vr := false, ty := 0, fz := false, loose := false },
  some
    { c := [AV.run ET.str [{ data := (List.flatMap (fun n => (Utf8.encode n).data.toList) []).toArray }]], vr := false,
      ty := 9, fz := false, loose := false },
  some
    {
      c :=
        [AV.run ET.str
            [{ data := (List.flatMap (fun n => (Utf8.encode n).data.toList) []).toArray },
              { data := (List.flatMap (fun n => (Utf8.encode n).data.toList) [Int.ofNat 97]).toArray },
              { data := (List.flatMap (fun n => (Utf8.encode n).data.toList) [Int.ofNat 98]).toArray },
              { data := (List.flatMap (fun n => (Utf8.encode n).data.toList) [Int.ofNat 99]).toArray }]],
      vr := false, ty := 9, fz := false, loose := false },
  some
    {
      c :=
        [AV.run ET.str
            [{ data := (List.flatMap (fun n => (Utf8.encode n).data.toList) []).toArray },
              { data := (List.flatMap (fun n => (Utf8.encode n).data.toList) [Int.ofNat 97]).toArray },
              { data := (List.flatMap (fun n => (Utf8.encode n).data.toList) [Int.ofNat 97, Int.ofNat 98]).toArray }]],
      vr := false, ty := 9, fz := false, loose := false },
  some
    {
      c :=
        [AV.run ET.str
            [{ data := (List.flatMap (fun n => (Utf8.encode n).data.toList) []).toArray },
              { data := (List.flatMap (fun n => (Utf8.encode n).data.toList) [Int.ofNat 97]).toArray },
              { data := (List.flatMap (fun n => (Utf8.encode n).data.toList) [Int.ofNat 98]).toArray }]],
      vr := false, ty := 9, fz := false, loose := false },
  some
    {
      c :=
        [AV.run ET.str
            [{ data := (List.flatMap (fun n => (Utf8.encode n).data.toList) []).toArray },
              { data := (List.flatMap (fun n => (Utf8.encode n).data.toList) [Int.ofNat 98]).toArray }]],
      vr := false, ty := 9, fz := false, loose := false }]
noncomputable def fr8_19 : Fr := [(0, AV.sc (Value.bool true)), (266, AV.sc (Value.bool true)), (264, AV.sc (Value.bool true)),
  (265, AV.sc (Value.bool true)), (264, AV.sc (Value.bool true)), (264, AV.sc (Value.bool true)),
  (263, AV.sc (Value.bool true)), (258, AV.sc (Value.bool true)), (262, AV.sc (Value.bool true)),
  (258, AV.sc (Value.bool true)), (261, AV.sc (Value.int IntKind.i64 2)), (258, AV.sc (Value.bool true)),
  (260, AV.sl ET.str [{ data := #[195, 169] }] false), (258, AV.sc (Value.bool true)),
  (259, AV.sl ET.str [{ data := #[195, 169] }] true), (258, AV.sc (Value.bool true)), (258, AV.sc (Value.bool true)),
  (257, AV.sc (Value.bool true)), (252, AV.sc (Value.bool true)), (256, AV.sc (Value.bool true)),
  (252, AV.sc (Value.bool true)), (255, AV.sc (Value.int IntKind.i64 6)), (252, AV.sc (Value.bool true)),
  (254, AV.sl ET.str [{ data := #[97] }, { data := #[97] }] false), (252, AV.sc (Value.bool true)),
  (253, AV.sl ET.str [{ data := #[97] }, { data := #[97] }] true), (252, AV.sc (Value.bool true)),
  (252, AV.sc (Value.bool true)), (251, AV.sc (Value.bool true)), (246, AV.sc (Value.bool true)),
  (250, AV.sc (Value.bool true)), (246, AV.sc (Value.bool true)), (249, AV.sc (Value.int IntKind.i64 7)),
  (246, AV.sc (Value.bool true)), (248, AV.sl ET.str [{ data := #[98, 97] }] false), (246, AV.sc (Value.bool true)),
  (247, AV.sl ET.str [{ data := #[98, 97] }] true), (246, AV.sc (Value.bool true)), (246, AV.sc (Value.bool true)),
  (245, AV.sc (Value.bool true)), (240, AV.sc (Value.bool true)), (244, AV.sc (Value.bool true)),
  (240, AV.sc (Value.bool true)), (243, AV.sc (Value.int IntKind.i64 2)), (240, AV.sc (Value.bool true)),
  (242, AV.sl ET.str [{ data := #[99] }] false), (240, AV.sc (Value.bool true)),
  (241, AV.sl ET.str [{ data := #[99] }] true), (240, AV.sc (Value.bool true)), (240, AV.sc (Value.bool true)),
  (239, AV.sc (Value.bool true)), (236, AV.sc (Value.bool true)), (238, AV.sc (Value.bool true)),
  (236, AV.sc (Value.bool true)), (237, AV.sc (Value.int IntKind.i64 1)), (236, AV.sc (Value.bool true)),
  (236, AV.sc (Value.bool true)), (235, AV.sc (Value.bool true)), (231, AV.sc (Value.bool true)),
  (234, AV.sc (Value.bool true)), (231, AV.sc (Value.bool true)), (233, AV.sc (Value.int IntKind.i64 14)),
  (231, AV.sc (Value.bool true)), (232, AV.sl ET.str [{ data := #[] }, { data := #[97] }, { data := #[97, 98] }] false),
  (231, AV.sc (Value.bool true)), (231, AV.sc (Value.bool true)), (230, AV.sc (Value.bool true)),
  (227, AV.sc (Value.bool true)), (229, AV.sc (Value.bool true)), (227, AV.sc (Value.bool true)),
  (228, AV.sc (Value.int IntKind.i64 4)), (227, AV.sc (Value.bool true)), (227, AV.sc (Value.bool true)),
  (226, AV.sc (Value.bool true)), (223, AV.sc (Value.bool true)), (225, AV.sc (Value.bool true)),
  (223, AV.sc (Value.bool true)), (224, AV.sc (Value.int IntKind.i64 4)), (223, AV.sc (Value.bool true)),
  (223, AV.sc (Value.bool true)), (222, AV.sc (Value.bool true)), (217, AV.sc (Value.bool true)),
  (221, AV.sc (Value.bool true)), (217, AV.sc (Value.bool true)),
  (220, AV.sl ET.str [{ data := #[] }, { data := #[98] }] false), (217, AV.sc (Value.bool true)),
  (219, AV.sl ET.str [{ data := #[] }, { data := #[98] }] true), (217, AV.sc (Value.bool true)),
  (218, AV.os 9 0 0 2 true false true), (217, AV.sc (Value.bool true)), (217, AV.sc (Value.bool true)),
  (216, AV.sc (Value.bool true)), (211, AV.sc (Value.bool true)), (215, AV.sc (Value.bool true)),
  (211, AV.sc (Value.bool true)), (214, AV.sl ET.str [{ data := #[] }, { data := #[97] }, { data := #[98] }] false),
  (211, AV.sc (Value.bool true)), (213, AV.sl ET.str [{ data := #[] }, { data := #[97] }, { data := #[98] }] true),
  (211, AV.sc (Value.bool true)), (212, AV.os 8 0 0 3 true false true), (211, AV.sc (Value.bool true)),
  (211, AV.sc (Value.bool true)), (210, AV.sc (Value.bool true)), (205, AV.sc (Value.bool true)),
  (209, AV.sc (Value.bool true)), (205, AV.sc (Value.bool true)),
  (208, AV.sl ET.str [{ data := #[] }, { data := #[97] }, { data := #[97, 98] }] false), (205, AV.sc (Value.bool true)),
  (207, AV.sl ET.str [{ data := #[] }, { data := #[97] }, { data := #[97, 98] }] true), (205, AV.sc (Value.bool true)),
  (206, AV.os 7 0 0 3 true false true), (205, AV.sc (Value.bool true)), (205, AV.sc (Value.bool true)),
  (204, AV.sc (Value.bool true)), (201, AV.sc (Value.bool true)), (203, AV.sc (Value.bool true)),
  (201, AV.sc (Value.bool true)),
  (202, AV.sc (Value.string { data := (List.flatMap (fun n => (Utf8.encode n).data.toList) []).toArray })),
  (201, AV.sc (Value.bool true)), (201, AV.sc (Value.bool true)), (200, AV.sc (Value.bool true)),
  (197, AV.sc (Value.bool true)), (199, AV.sc (Value.bool true)), (197, AV.sc (Value.bool true)),
  (198, AV.sc (Value.int IntKind.i64 1)), (197, AV.sc (Value.bool true)), (197, AV.sc (Value.bool true)),
  (196, AV.sc (Value.bool true)), (193, AV.sc (Value.bool true)), (195, AV.sc (Value.bool true)),
  (193, AV.sc (Value.bool true)), (194, AV.sc (Value.int IntKind.i64 2)), (193, AV.sc (Value.bool true)),
  (193, AV.sc (Value.bool true)), (192, AV.sc (Value.bool true)), (189, AV.sc (Value.bool true)),
  (191, AV.sc (Value.bool true)), (189, AV.sc (Value.bool true)), (190, AV.sc (Value.int IntKind.i64 0)),
  (189, AV.sc (Value.bool true)), (189, AV.sc (Value.bool true)), (188, AV.sc (Value.bool true)),
  (185, AV.sc (Value.bool true)), (187, AV.sc (Value.bool true)), (185, AV.sc (Value.bool true)),
  (186, AV.sc (Value.int IntKind.i64 0)), (185, AV.sc (Value.bool true)), (185, AV.sc (Value.bool true)),
  (184, AV.sc (Value.bool true)), (181, AV.sc (Value.bool true)), (183, AV.sc (Value.bool true)),
  (181, AV.sc (Value.bool true)), (182, AV.sc (Value.int IntKind.i64 0)), (181, AV.sc (Value.bool true)),
  (181, AV.sc (Value.bool true)), (180, AV.sc (Value.bool true)), (177, AV.sc (Value.bool true)),
  (179, AV.sc (Value.bool true)), (177, AV.sc (Value.bool true)), (178, AV.sc (Value.int IntKind.i64 0)),
  (177, AV.sc (Value.bool true)), (177, AV.sc (Value.bool true)), (176, AV.sc (Value.bool true)),
  (173, AV.sc (Value.bool true)), (175, AV.sc (Value.bool true)), (173, AV.sc (Value.bool true)),
  (174, AV.sc (Value.int IntKind.i64 0)), (173, AV.sc (Value.bool true)), (173, AV.sc (Value.bool true)),
  (172, AV.sc (Value.bool true)), (169, AV.sc (Value.bool true)), (171, AV.sc (Value.bool true)),
  (169, AV.sc (Value.bool true)), (170, AV.sc (Value.int IntKind.i64 0)), (169, AV.sc (Value.bool true)),
  (169, AV.sc (Value.bool true)), (168, AV.sc (Value.bool true)), (167, AV.sc (Value.int IntKind.i64 0)),
  (23, AV.sc (Value.int IntKind.i64 2)), (22, AV.sc (Value.int IntKind.i64 0)), (166, AV.sc (Value.int IntKind.i64 2)),
  (165, AV.sc (Value.int IntKind.i64 0)),
  (163, AV.tuple [AV.sc (Value.int IntKind.i64 0), AV.sc (Value.int IntKind.i64 2)]),
  (164, AV.tuple [AV.sc (Value.int IntKind.i64 0), AV.sc (Value.int IntKind.i64 2)]),
  (14, AV.sc (Value.int IntKind.i64 0)), (21, AV.sc (Value.int IntKind.i64 4)), (162, AV.sc (Value.int IntKind.i64 0)),
  (161, AV.sc (Value.int IntKind.i64 4)),
  (159, AV.tuple [AV.sc (Value.int IntKind.i64 4), AV.sc (Value.int IntKind.i64 0)]),
  (160, AV.tuple [AV.sc (Value.int IntKind.i64 4), AV.sc (Value.int IntKind.i64 0)]),
  (12, AV.sc (Value.int IntKind.i64 0)), (20, AV.sc (Value.int IntKind.i64 4)), (158, AV.sc (Value.int IntKind.i64 0)),
  (157, AV.sc (Value.int IntKind.i64 4)),
  (155, AV.tuple [AV.sc (Value.int IntKind.i64 4), AV.sc (Value.int IntKind.i64 0)]),
  (156, AV.tuple [AV.sc (Value.int IntKind.i64 4), AV.sc (Value.int IntKind.i64 0)]),
  (10, AV.sc (Value.int IntKind.i64 0)), (19, AV.os 9 0 0 2 true false true), (154, AV.sc (Value.int IntKind.i64 0)),
  (153, AV.os 9 0 0 2 true false true),
  (150, AV.tuple [AV.os 9 0 0 2 true false true, AV.sc (Value.int IntKind.i64 0)]),
  (152, AV.tuple [AV.os 9 0 0 2 true false true, AV.sc (Value.int IntKind.i64 0)]),
  (151, AV.sl ET.str [{ data := #[97] }, { data := #[98] }] false), (8, AV.sc (Value.int IntKind.i64 0)),
  (18, AV.os 8 0 0 3 true false true), (149, AV.sc (Value.int IntKind.i64 0)), (148, AV.os 8 0 0 3 true false true),
  (145, AV.tuple [AV.os 8 0 0 3 true false true, AV.sc (Value.int IntKind.i64 0)]),
  (147, AV.tuple [AV.os 8 0 0 3 true false true, AV.sc (Value.int IntKind.i64 0)]),
  (146, AV.sl ET.str [{ data := #[] }, { data := #[97] }, { data := #[97, 98] }] false),
  (6, AV.sc (Value.int IntKind.i64 0)), (17, AV.os 7 0 0 3 true false true), (144, AV.sc (Value.int IntKind.i64 0)),
  (143, AV.os 7 0 0 3 true false true),
  (140, AV.tuple [AV.os 7 0 0 3 true false true, AV.sc (Value.int IntKind.i64 0)]),
  (142, AV.tuple [AV.os 7 0 0 3 true false true, AV.sc (Value.int IntKind.i64 0)]),
  (141, AV.sl ET.str [{ data := #[] }, { data := #[97] }, { data := #[97, 98] }] false),
  (4, AV.sc (Value.int IntKind.i64 0)),
  (16, AV.sc (Value.string { data := (List.flatMap (fun n => (Utf8.encode n).data.toList) []).toArray })),
  (139, AV.sc (Value.int IntKind.i64 0)),
  (138, AV.sc (Value.string { data := (List.flatMap (fun n => (Utf8.encode n).data.toList) []).toArray })),
  (135,
    AV.tuple
      [AV.sc (Value.string { data := (List.flatMap (fun n => (Utf8.encode n).data.toList) []).toArray }),
        AV.sc (Value.int IntKind.i64 0)]),
  (137,
    AV.tuple
      [AV.sc (Value.string { data := (List.flatMap (fun n => (Utf8.encode n).data.toList) []).toArray }),
        AV.sc (Value.int IntKind.i64 0)]),
  (136,
    AV.sl ET.str [{ data := #[97, 98] }, { data := #[97, 99] }, { data := #[98, 99] }, { data := #[97, 98, 99] }]
      false),
  (2, AV.sc (Value.int IntKind.i64 0)), (15, AV.sc (Value.int IntKind.i64 1)), (134, AV.sc (Value.int IntKind.i64 0)),
  (133, AV.sc (Value.int IntKind.i64 1)),
  (130, AV.tuple [AV.sc (Value.int IntKind.i64 1), AV.sc (Value.int IntKind.i64 0)]),
  (132, AV.tuple [AV.sc (Value.int IntKind.i64 1), AV.sc (Value.int IntKind.i64 0)]),
  (131,
    AV.sl ET.str [{ data := #[97, 98] }, { data := #[97, 99] }, { data := #[98, 99] }, { data := #[97, 98, 99] }]
      false),
  (129, AV.sc (Value.bool false)), (129, AV.sc (Value.bool false)), (123, AV.sc (Value.bool false)),
  (128, AV.sc (Value.bool false)), (123, AV.sc (Value.bool false)), (127, AV.sc (Value.bool true)),
  (123, AV.sc (Value.bool false)),
  (126, AV.sl ET.str [{ data := #[] }, { data := #[97] }, { data := #[98] }, { data := #[99] }] false),
  (123, AV.sc (Value.bool false)),
  (125, AV.sl ET.str [{ data := #[] }, { data := #[97] }, { data := #[98] }, { data := #[99] }] true),
  (123, AV.sc (Value.bool false)), (124, AV.os 6 0 0 4 true false true), (123, AV.sc (Value.bool false)),
  (123, AV.sc (Value.bool false)), (122, AV.sc (Value.bool false)), (116, AV.sc (Value.bool false)),
  (121, AV.sc (Value.bool false)), (116, AV.sc (Value.bool false)), (120, AV.sc (Value.bool true)),
  (116, AV.sc (Value.bool false)), (119, AV.sl ET.str [{ data := #[] }] false), (116, AV.sc (Value.bool false)),
  (118, AV.sl ET.str [{ data := #[] }] true), (116, AV.sc (Value.bool false)), (117, AV.os 5 0 0 1 true false true),
  (116, AV.sc (Value.bool false)), (116, AV.sc (Value.bool false)), (115, AV.sc (Value.bool false)),
  (111, AV.sc (Value.bool false)), (114, AV.sc (Value.bool false)), (111, AV.sc (Value.bool false)),
  (113, AV.sc (Value.int IntKind.i64 0)), (111, AV.sc (Value.bool false)), (112, AV.os 4 0 0 0 true false true),
  (111, AV.sc (Value.bool false)), (111, AV.sc (Value.bool false)), (110, AV.sc (Value.bool false)),
  (105, AV.sc (Value.bool false)), (109, AV.sc (Value.bool false)), (105, AV.sc (Value.bool false)),
  (108, AV.sc (Value.bool true)), (105, AV.sc (Value.bool false)), (107, AV.os 2 0 0 3 true false true),
  (105, AV.sc (Value.bool false)), (106, AV.os 3 0 0 3 true false true), (105, AV.sc (Value.bool false)),
  (105, AV.sc (Value.bool false)), (104, AV.sc (Value.bool false)), (98, AV.sc (Value.bool false)),
  (103, AV.sc (Value.bool false)), (98, AV.sc (Value.bool false)), (102, AV.sc (Value.bool true)),
  (98, AV.sc (Value.bool false)), (101, AV.sl ET.str [{ data := #[] }, { data := #[97] }, { data := #[98] }] false),
  (98, AV.sc (Value.bool false)), (100, AV.sl ET.str [{ data := #[] }, { data := #[97] }, { data := #[98] }] true),
  (98, AV.sc (Value.bool false)), (99, AV.os 2 0 0 3 true false true), (98, AV.sc (Value.bool false)),
  (98, AV.sc (Value.bool false)), (97, AV.sc (Value.bool false)), (91, AV.sc (Value.bool false)),
  (96, AV.sc (Value.bool false)), (91, AV.sc (Value.bool false)), (95, AV.sc (Value.bool true)),
  (91, AV.sc (Value.bool false)), (94, AV.sl ET.str [{ data := #[] }, { data := #[98] }] false),
  (91, AV.sc (Value.bool false)), (93, AV.sl ET.str [{ data := #[] }, { data := #[98] }] true),
  (91, AV.sc (Value.bool false)), (92, AV.os 1 0 0 2 true false true), (91, AV.sc (Value.bool false)),
  (91, AV.sc (Value.bool false)), (90, AV.sc (Value.bool false)), (84, AV.sc (Value.bool false)),
  (89, AV.sc (Value.bool false)), (84, AV.sc (Value.bool false)), (88, AV.sc (Value.bool true)),
  (84, AV.sc (Value.bool false)), (87, AV.sl ET.str [{ data := #[] }, { data := #[97, 98] }] false),
  (84, AV.sc (Value.bool false)), (86, AV.sl ET.str [{ data := #[] }, { data := #[97, 98] }] true),
  (84, AV.sc (Value.bool false)), (85, AV.os 0 0 0 2 true false true), (84, AV.sc (Value.bool false)),
  (84, AV.sc (Value.bool false)), (83, AV.sc (Value.bool false)), (80, AV.sc (Value.bool false)),
  (82, AV.sc (Value.bool false)), (80, AV.sc (Value.bool false)), (81, AV.sc (Value.int IntKind.i64 0)),
  (80, AV.sc (Value.bool false)), (80, AV.sc (Value.bool false)), (79, AV.sc (Value.bool false)),
  (76, AV.sc (Value.bool false)), (78, AV.sc (Value.bool false)), (76, AV.sc (Value.bool false)),
  (77, AV.sc (Value.int IntKind.i64 0)), (76, AV.sc (Value.bool false)), (76, AV.sc (Value.bool false)),
  (75, AV.sc (Value.bool false)), (72, AV.sc (Value.bool false)), (74, AV.sc (Value.bool false)),
  (72, AV.sc (Value.bool false)), (73, AV.sc (Value.int IntKind.i64 0)), (72, AV.sc (Value.bool false)),
  (72, AV.sc (Value.bool false)), (71, AV.sc (Value.bool false)), (68, AV.sc (Value.bool false)),
  (70, AV.sc (Value.bool false)), (68, AV.sc (Value.bool false)), (69, AV.sc (Value.int IntKind.i64 0)),
  (68, AV.sc (Value.bool false)), (68, AV.sc (Value.bool false)), (67, AV.sc (Value.bool false)),
  (64, AV.sc (Value.bool false)), (66, AV.sc (Value.bool false)), (64, AV.sc (Value.bool false)),
  (65, AV.sc (Value.int IntKind.i64 0)), (64, AV.sc (Value.bool false)), (64, AV.sc (Value.bool false)),
  (63, AV.sc (Value.bool false)), (60, AV.sc (Value.bool false)), (62, AV.sc (Value.bool false)),
  (60, AV.sc (Value.bool false)), (61, AV.sc (Value.int IntKind.i64 0)), (60, AV.sc (Value.bool false)),
  (60, AV.sc (Value.bool false)), (59, AV.sc (Value.bool false)), (58, AV.sc (Value.int IntKind.i64 0)),
  (14, AV.sc (Value.int IntKind.i64 0)), (13, AV.os 6 0 0 4 true false true), (57, AV.sc (Value.int IntKind.i64 0)),
  (56, AV.os 6 0 0 4 true false true), (53, AV.tuple [AV.os 6 0 0 4 true false true, AV.sc (Value.int IntKind.i64 0)]),
  (55, AV.tuple [AV.os 6 0 0 4 true false true, AV.sc (Value.int IntKind.i64 0)]),
  (54,
    AV.sl ET.str [{ data := #[97, 98] }, { data := #[97, 99] }, { data := #[98, 99] }, { data := #[97, 98, 99] }]
      false),
  (12, AV.sc (Value.int IntKind.i64 0)), (11, AV.os 5 0 0 1 true false true), (52, AV.sc (Value.int IntKind.i64 0)),
  (51, AV.os 5 0 0 1 true false true), (48, AV.tuple [AV.os 5 0 0 1 true false true, AV.sc (Value.int IntKind.i64 0)]),
  (50, AV.tuple [AV.os 5 0 0 1 true false true, AV.sc (Value.int IntKind.i64 0)]),
  (49, AV.sl ET.str [{ data := #[97] }, { data := #[98] }] false), (10, AV.sc (Value.int IntKind.i64 0)),
  (9, AV.os 4 0 0 0 true false true), (47, AV.sc (Value.int IntKind.i64 0)), (46, AV.os 4 0 0 0 true false true),
  (44, AV.tuple [AV.os 4 0 0 0 true false true, AV.sc (Value.int IntKind.i64 0)]),
  (45, AV.tuple [AV.os 4 0 0 0 true false true, AV.sc (Value.int IntKind.i64 0)]), (8, AV.sc (Value.int IntKind.i64 0)),
  (7, AV.os 3 0 0 3 true false true), (43, AV.sc (Value.int IntKind.i64 0)), (42, AV.os 3 0 0 3 true false true),
  (39, AV.tuple [AV.os 3 0 0 3 true false true, AV.sc (Value.int IntKind.i64 0)]),
  (41, AV.tuple [AV.os 3 0 0 3 true false true, AV.sc (Value.int IntKind.i64 0)]),
  (40, AV.sl ET.str [{ data := #[97] }, { data := #[98] }] false), (6, AV.sc (Value.int IntKind.i64 0)),
  (5, AV.os 2 0 0 3 true false true), (38, AV.sc (Value.int IntKind.i64 0)), (37, AV.os 2 0 0 3 true false true),
  (34, AV.tuple [AV.os 2 0 0 3 true false true, AV.sc (Value.int IntKind.i64 0)]),
  (36, AV.tuple [AV.os 2 0 0 3 true false true, AV.sc (Value.int IntKind.i64 0)]),
  (35, AV.sl ET.str [{ data := #[] }, { data := #[97] }, { data := #[97, 98] }] false),
  (4, AV.sc (Value.int IntKind.i64 0)), (3, AV.os 1 0 0 2 true false true), (33, AV.sc (Value.int IntKind.i64 0)),
  (32, AV.os 1 0 0 2 true false true), (29, AV.tuple [AV.os 1 0 0 2 true false true, AV.sc (Value.int IntKind.i64 0)]),
  (31, AV.tuple [AV.os 1 0 0 2 true false true, AV.sc (Value.int IntKind.i64 0)]),
  (30, AV.sl ET.str [{ data := #[] }, { data := #[97] }, { data := #[97, 98] }] false),
  (2, AV.sc (Value.int IntKind.i64 0)), (1, AV.os 0 0 0 2 true false true), (28, AV.sc (Value.int IntKind.i64 0)),
  (27, AV.os 0 0 0 2 true false true), (24, AV.tuple [AV.os 0 0 0 2 true false true, AV.sc (Value.int IntKind.i64 0)]),
  (26, AV.tuple [AV.os 0 0 0 2 true false true, AV.sc (Value.int IntKind.i64 0)]),
  (25, AV.sl ET.str [{ data := #[97] }, { data := #[98] }] false), (0, AV.sc (Value.bool false))]
noncomputable def hp8_19 : Hp := [some
    {
      c :=
        [AV.run ET.str
            [{ data := (List.flatMap (fun n => (Utf8.encode n).data.toList) []).toArray },
              { data := (List.flatMap (fun n => (Utf8.encode n).data.toList) [Int.ofNat 97, Int.ofNat 98]).toArray }]],
      vr := false, ty := 9, fz := false, loose := false },
  some
    {
      c :=
        [AV.run ET.str
            [{ data := (List.flatMap (fun n => (Utf8.encode n).data.toList) []).toArray },
              { data := (List.flatMap (fun n => (Utf8.encode n).data.toList) [Int.ofNat 98]).toArray }]],
      vr := false, ty := 9, fz := false, loose := false },
  some
    {
      c :=
        [AV.run ET.str
            [{ data := (List.flatMap (fun n => (Utf8.encode n).data.toList) []).toArray },
              { data := (List.flatMap (fun n => (Utf8.encode n).data.toList) [Int.ofNat 97]).toArray },
              { data := (List.flatMap (fun n => (Utf8.encode n).data.toList) [Int.ofNat 98]).toArray }]],
      vr := false, ty := 9, fz := false, loose := false },
  some
    {
      c :=
        [AV.run ET.str
            [{ data := (List.flatMap (fun n => (Utf8.encode n).data.toList) []).toArray },
              { data := (List.flatMap (fun n => (Utf8.encode n).data.toList) [Int.ofNat 97]).toArray },
              { data := (List.flatMap (fun n => (Utf8.encode n).data.toList) [Int.ofNat 98]).toArray }]],
      vr := false, ty := 9, fz := false, loose := false },
  some { c := [AV.run ET.str []], vr := false, ty := 0, fz := false, loose := false },
  some
    { c := [AV.run ET.str [{ data := (List.flatMap (fun n => (Utf8.encode n).data.toList) []).toArray }]], vr := false,
      ty := 9, fz := false, loose := false },
  some
    {
      c :=
        [AV.run ET.str
            [{ data := (List.flatMap (fun n => (Utf8.encode n).data.toList) []).toArray },
              { data := (List.flatMap (fun n => (Utf8.encode n).data.toList) [Int.ofNat 97]).toArray },
              { data := (List.flatMap (fun n => (Utf8.encode n).data.toList) [Int.ofNat 98]).toArray },
              { data := (List.flatMap (fun n => (Utf8.encode n).data.toList) [Int.ofNat 99]).toArray }]],
      vr := false, ty := 9, fz := false, loose := false },
  some
    {
      c :=
        [AV.run ET.str
            [{ data := (List.flatMap (fun n => (Utf8.encode n).data.toList) []).toArray },
              { data := (List.flatMap (fun n => (Utf8.encode n).data.toList) [Int.ofNat 97]).toArray },
              { data := (List.flatMap (fun n => (Utf8.encode n).data.toList) [Int.ofNat 97, Int.ofNat 98]).toArray }]],
      vr := false, ty := 9, fz := false, loose := false },
  some
    {
      c :=
        [AV.run ET.str
            [{ data := (List.flatMap (fun n => (Utf8.encode n).data.toList) []).toArray },
              { data := (List.flatMap (fun n => (Utf8.encode n).data.toList) [Int.ofNat 97]).toArray },
              { data := (List.flatMap (fun n => (Utf8.encode n).data.toList) [Int.ofNat 98]).toArray }]],
      vr := false, ty := 9, fz := false, loose := false },
  some
    {
      c :=
        [AV.run ET.str
            [{ data := (List.flatMap (fun n => (Utf8.encode n).data.toList) []).toArray },
              { data := (List.flatMap (fun n => (Utf8.encode n).data.toList) [Int.ofNat 98]).toArray }]],
      vr := false, ty := 9, fz := false, loose := false }]
theorem fn8_eq : TF.fn 8 = some fn8 := by kernel_rfl
theorem cd8_eq : fn8.body = some cd8 := by kernel_rfl
end Go.Ev.Rag
